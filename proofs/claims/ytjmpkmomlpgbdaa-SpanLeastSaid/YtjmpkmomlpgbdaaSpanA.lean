/-
  Package span: all sums.
-/
import Derived.Test.YtjmpkmomlpgbdaaWords
import Derived.Test.YtjmpkmomlpgbdaaPdq4
import Derived.Test.YtjmpkmomlpgbdaaSpanPlain
import Derived.Test.YtjmpkmomlpgbdaaFlipPlain
import Derived.Test.YtjmpkmomlpgbdaaVappk
namespace Go.Proofs.Ytjmpkmomlpgbdaa
open Go Go.RowKit V
set_option linter.unusedVariables false
set_option linter.unusedSimpArgs false

theorem index_any (ws : List Nat) (p : Option Addr) (c : Nat) (m x : Nat) (w0 : World) (hr : Rd w0 p (uv ws)) (hm : m ≤ ws.length) (hl : m ≤ 9223372036854775807) :
    CallsV Try.prog 55 #[.slice p m c, .int .u32 (x : Int)] w0 (fun v w => ∃ z : Int, v = .int .i64 z ∧ (0 ≤ z ↔ ∃ j, j < m ∧ gn ws j = x) ∧ Below w0.heap.size w0 w) := by
  refine enter1 Try.func55 rfl Try.ntmps55 (by simp) rfl ?_
  have hB := Below.refl w0.heap.size w0
  simp only [argLoc, Nat.zero_add]
  refine W.seqR ?_
  refine LS.vv rfl rfl (by decide) (Val.cast (v := .int .i64 ((0 : Nat) : Int)) (Val.assign rfl) rfl) ?_
  refine LS.nil ?_
  refine W.seq ?_
  refine W.seqR ?_
  refine LS.vv rfl rfl (by decide) (Val.move rfl) ?_
  refine LS.vv rfl rfl (by decide) (Val.len Try.underlying32 rfl) ?_
  refine LS.vv rfl rfl (by decide) (Val.cast (v := .int .i64 ((0 : Nat) : Int)) (Val.move rfl) rfl) ?_
  refine LS.nil ?_
  refine W.block ?_
  refine W.loop (α := Nat) (fun k => [(8, .int .i64 (k : Int))]) [(0, _), (1, _), (7, _)] (fun k w => (k ≤ m ∧ ∀ j, j < k → gn ws j ≠ x) ∧ Below w0.heap.size w0 w) (fun k => m - k) (0) (Sub.cons rfl (Sub.nil _)) (Sub.cons rfl (Sub.cons rfl (Sub.cons rfl (Sub.nil _)))) ?_ ?_
  · exact ⟨⟨Nat.zero_le _, by omega⟩, hB⟩
  rintro k w1 ⟨⟨hk, hall⟩, hB⟩
  simp only [List.cons_append, List.nil_append]
  refine W.seqR ?_
  refine LS.vv rfl rfl (by decide) (Val.lss rfl rfl) ?_
  refine LS.nil ?_
  refine W.seq ?_
  first | refine W.condD rfl (fun hc1 => ?_) (fun hc1 => ?_) | refine W.cond rfl (fun hc1 => ?_) (fun hc1 => ?_)
  ·
    refine W.skip ?_
    refine thenP_normal ?_
    refine W.seq ?_
    refine W.block ?_
    refine W.seqR ?_
    refine LS.vv rfl rfl (by decide) (Val.move rfl) ?_
    refine LS.vv rfl rfl (by decide) (Val.assign rfl) ?_
    refine LS.nil ?_
    refine W.seqR ?_
    refine LS.vv rfl rfl (by decide) (Val.move rfl) ?_
    refine LS.vv rfl rfl (by decide) (Val.move rfl) ?_
    refine LS.vv rfl rfl (by decide) (Val.move rfl) ?_
    refine LS.vv rfl rfl (by decide) (Val.index1 Try.underlying32 elem37 rfl rfl (by omega) hr (uv_lt (by omega))) ?_
    refine LS.m rfl (Step.load rfl rfl (by decide) flat37 rfl (hr.below hB) (uv_at (by omega)) ?_)
    refine LS.vv rfl rfl (by decide) (Val.eql rfl rfl) ?_
    refine LS.nil ?_
    first | refine W.condD rfl (fun hc2 => ?_) (fun hc2 => ?_) | refine W.cond rfl (fun hc2 => ?_) (fun hc2 => ?_)
    ·
      refine W.seqR ?_
      refine LS.vv rfl rfl (by decide) (Val.move rfl) ?_
      refine LS.vv rfl rfl (by decide) (Val.assign rfl) ?_
      refine LS.nil ?_
      refine W.ret ?_
      refine inBlk_ret ?_
      refine thenP_ret ?_
      refine thenP_ret ?_
      refine inBlk_ret ?_
      refine thenP_ret ?_
      refine ret1 (by first | exact .inl rfl | exact .inr rfl) rfl ?_
      first | exact ⟨_, rfl, ⟨fun _ => ⟨k, by omega, by omega⟩, fun _ => by omega⟩, hB⟩ | exact ⟨_, rfl, ⟨fun h => absurd h (by decide), fun ⟨j, h1, h2⟩ => absurd h2 (hall j (by omega))⟩, hB⟩
    ·
      refine W.skip ?_
      refine inBlk_normal ?_
      refine thenP_normal ?_
      refine W.reg ?_
      first | refine LS.vv rfl rfl (by decide) (Val.addN (j := 1) rfl rfl (by omega)) ?_ | refine LS.vv rfl rfl (by decide) (Val.add64 rfl rfl (by omega)) ?_
      refine LS.vv rfl rfl (by decide) (Val.move rfl) ?_
      refine LS.nil ?_
      refine thenP_normal ?_
      have hne : gn ws k ≠ x := by omega
      refine ⟨k + 1, ?_, ?_, ⟨⟨by omega, ?_⟩, hB⟩, by omega⟩
      · exact Sub.cons rfl (Sub.nil _)
      · repeat (first | exact Sub.nil _ | refine Sub.cons rfl ?_)
      · intro j hj
        by_cases e : j = k
        · subst e; exact hne
        · exact hall j (by omega)
  ·
    refine W.exit ?_
    refine thenP_exit ?_
    refine thenP_exit ?_
    refine inBlk_exit ?_
    refine thenP_normal ?_
    refine W.seqR ?_
    refine LS.vv rfl rfl (by decide) (Val.assign rfl) ?_
    refine LS.nil ?_
    refine W.ret ?_
    refine ret1 (by first | exact .inl rfl | exact .inr rfl) rfl ?_
    first | exact ⟨_, rfl, ⟨fun _ => ⟨k, by omega, by omega⟩, fun _ => by omega⟩, hB⟩ | exact ⟨_, rfl, ⟨fun h => absurd h (by decide), fun ⟨j, h1, h2⟩ => absurd h2 (hall j (by omega))⟩, hB⟩

theorem contains_any (ws : List Nat) (p : Option Addr) (c : Nat) (m x : Nat) (w0 : World) (hr : Rd w0 p (uv ws)) (hm : m ≤ ws.length) (hl : m ≤ 9223372036854775807) :
    CallsV Try.prog 46 #[.slice p m c, .int .u32 (x : Int)] w0 (fun v w => ∃ b : Bool, v = .bool b ∧ (b = true ↔ ∃ j, j < m ∧ gn ws j = x) ∧ Below w0.heap.size w0 w) := by
  refine enter1 Try.func46 rfl Try.ntmps46 (by simp) rfl ?_
  have hB := Below.refl w0.heap.size w0
  simp only [argLoc, Nat.zero_add]
  refine W.seqR ?_
  refine LS.vv rfl rfl (by decide) (Val.assign rfl) ?_
  refine LS.nil ?_
  refine W.seqR ?_
  refine LS.vv rfl rfl (by decide) (Val.move rfl) ?_
  refine LS.vv rfl rfl (by decide) (Val.move rfl) ?_
  refine LS.m rfl (Step.call body55 rfl rfl (by decide) rfl (CallsV.mono (index_any ws _ _ m x _ (hr.below hB) hm hl) ?_))
  rintro _ w1 ⟨z, rfl, hz, hb1⟩
  replace hB := hB.trans (hb1.mono hB.size)
  refine LS.vv rfl rfl (by decide) (Val.geq rfl rfl) ?_
  refine LS.vv rfl rfl (by decide) (Val.assign rfl) ?_
  refine LS.nil ?_
  refine W.ret ?_
  refine ret1 (by first | exact .inl rfl | exact .inr rfl) rfl ?_
  refine ⟨_, rfl, ?_, hB⟩
  rw [← hz, decide_eq_true_iff]

theorem spanCheck_any (n : Int) (cs : List Nat) (p : Option Addr) (c : Nat) (w0 : World) (hr : Rd w0 p (uv cs)) (hl : cs.length ≤ 9223372036854775807) (hcs : ∀ x ∈ cs, x < 4294967296) :
    CallsV Try.prog 31 #[.int .i64 n, .slice p cs.length c] w0 (fun v w => ∃ e : Nat, v = .int .i64 (e : Int) ∧ (e = 0 ↔ OkR n cs) ∧ Below w0.heap.size w0 w) := by
  refine enter1 Try.func31 rfl Try.ntmps31 (by simp) rfl ?_
  have hB := Below.refl w0.heap.size w0
  simp only [argLoc, Nat.zero_add]
  refine W.seqR ?_
  refine LS.vv rfl rfl (by decide) (Val.cast (v := .int .i64 ((0 : Nat) : Int)) (Val.assign rfl) rfl) ?_
  refine LS.nil ?_
  refine W.seq ?_
  refine W.seqR ?_
  refine LS.vv rfl rfl (by decide) (Val.move rfl) ?_
  refine LS.vv rfl rfl (by decide) (Val.len Try.underlying32 rfl) ?_
  refine LS.vv rfl rfl (by decide) (Val.gtr rfl rfl) ?_
  refine LS.nil ?_
  first | refine W.condD rfl (fun hc1 => ?_) (fun hc1 => ?_) | refine W.cond rfl (fun hc1 => ?_) (fun hc1 => ?_)
  ·
    refine W.seqR ?_
    refine LS.vv rfl rfl (by decide) (Val.cast (v := .int .i64 ((1 : Nat) : Int)) (Val.assign rfl) rfl) ?_
    refine LS.nil ?_
    refine W.ret ?_
    refine thenP_ret ?_
    refine ret1 (by first | exact .inl rfl | exact .inr rfl) rfl ?_
    first | exact ⟨1, rfl, ⟨fun h => by omega, fun h => by (have := h.2; omega)⟩, hB⟩ | exact ⟨e, rfl, ⟨fun h => ⟨he.1 h, by omega⟩, fun h => he.2 h.1⟩, hB⟩
  ·
    refine W.skip ?_
    refine thenP_normal ?_
    refine W.seqR ?_
    refine LS.vv rfl rfl (by decide) (Val.move rfl) ?_
    refine LS.vv rfl rfl (by decide) (Val.move rfl) ?_
    refine LS.m rfl (Step.call body45 rfl rfl (by decide) rfl (CallsV.mono (ballCheck_any n cs _ _ _ (hr.below hB) (by omega) hcs) ?_))
    rintro _ w1 ⟨e, rfl, he, hb1⟩
    replace hB := hB.trans (hb1.mono hB.size)
    refine LS.vv rfl rfl (by decide) (Val.assign rfl) ?_
    refine LS.nil ?_
    refine W.ret ?_
    refine ret1 (by first | exact .inl rfl | exact .inr rfl) rfl ?_
    first | exact ⟨1, rfl, ⟨fun h => by omega, fun h => by (have := h.2; omega)⟩, hB⟩ | exact ⟨e, rfl, ⟨fun h => ⟨he.1 h, by omega⟩, fun h => he.2 h.1⟩, hB⟩

theorem rowsCheck_any (n : Int) (cs : List Nat) (p : Option Addr) (c : Nat) (w0 : World) (hr : Rd w0 p (uv cs)) (hl : cs.length ≤ 9223372036854775807) (hcs : ∀ x ∈ cs, x < 4294967296) :
    CallsV Try.prog 33 #[.int .i64 n, .slice p cs.length c] w0 (fun v w => ∃ e : Nat, v = .int .i64 (e : Int) ∧ (e = 0 ↔ OkR n cs) ∧ Below w0.heap.size w0 w) := by
  refine enter1 Try.func33 rfl Try.ntmps33 (by simp) rfl ?_
  have hB := Below.refl w0.heap.size w0
  simp only [argLoc, Nat.zero_add]
  refine W.seqR ?_
  refine LS.vv rfl rfl (by decide) (Val.cast (v := .int .i64 ((0 : Nat) : Int)) (Val.assign rfl) rfl) ?_
  refine LS.nil ?_
  refine W.seq ?_
  refine W.seqR ?_
  refine LS.vv rfl rfl (by decide) (Val.move rfl) ?_
  refine LS.vv rfl rfl (by decide) (Val.len Try.underlying32 rfl) ?_
  refine LS.vv rfl rfl (by decide) (Val.gtr rfl rfl) ?_
  refine LS.nil ?_
  first | refine W.condD rfl (fun hc1 => ?_) (fun hc1 => ?_) | refine W.cond rfl (fun hc1 => ?_) (fun hc1 => ?_)
  ·
    refine W.seqR ?_
    refine LS.vv rfl rfl (by decide) (Val.cast (v := .int .i64 ((1 : Nat) : Int)) (Val.assign rfl) rfl) ?_
    refine LS.nil ?_
    refine W.ret ?_
    refine thenP_ret ?_
    refine ret1 (by first | exact .inl rfl | exact .inr rfl) rfl ?_
    first | exact ⟨1, rfl, ⟨fun h => by omega, fun h => by (have := h.2; omega)⟩, hB⟩ | exact ⟨e, rfl, ⟨fun h => ⟨he.1 h, by omega⟩, fun h => he.2 h.1⟩, hB⟩
  ·
    refine W.skip ?_
    refine thenP_normal ?_
    refine W.seqR ?_
    refine LS.vv rfl rfl (by decide) (Val.move rfl) ?_
    refine LS.vv rfl rfl (by decide) (Val.move rfl) ?_
    refine LS.m rfl (Step.call body38 rfl rfl (by decide) rfl (CallsV.mono (bitsCheck_any n cs _ _ _ (hr.below hB) (by omega) hcs) ?_))
    rintro _ w1 ⟨e, rfl, he, hb1⟩
    replace hB := hB.trans (hb1.mono hB.size)
    refine LS.vv rfl rfl (by decide) (Val.assign rfl) ?_
    refine LS.nil ?_
    refine W.ret ?_
    refine ret1 (by first | exact .inl rfl | exact .inr rfl) rfl ?_
    first | exact ⟨1, rfl, ⟨fun h => by omega, fun h => by (have := h.2; omega)⟩, hB⟩ | exact ⟨e, rfl, ⟨fun h => ⟨he.1 h, by omega⟩, fun h => he.2 h.1⟩, hB⟩

theorem rowed_any (n : Int) (cs : List Nat) (p : Option Addr) (c : Nat) (w0 : World) (hr : Rd w0 p (uv cs)) (hl : cs.length ≤ 9223372036854775807) (hcs : ∀ x ∈ cs, x < 4294967296) :
    CallsV Try.prog 14 #[.int .i64 n, .slice p cs.length c] w0 (fun v w => ∃ b : Bool, v = .bool b ∧ (b = true ↔ OkR n cs) ∧ Below w0.heap.size w0 w) := by
  refine enter1 Try.func14 rfl Try.ntmps14 (by simp) rfl ?_
  have hB := Below.refl w0.heap.size w0
  simp only [argLoc, Nat.zero_add]
  refine W.seqR ?_
  refine LS.vv rfl rfl (by decide) (Val.assign rfl) ?_
  refine LS.nil ?_
  refine W.seqR ?_
  refine LS.vv rfl rfl (by decide) (Val.move rfl) ?_
  refine LS.vv rfl rfl (by decide) (Val.move rfl) ?_
  refine LS.m rfl (Step.call body33 rfl rfl (by decide) rfl (CallsV.mono (rowsCheck_any n cs _ _ _ (hr.below hB) hl hcs) ?_))
  rintro _ w1 ⟨e, rfl, he, hb1⟩
  replace hB := hB.trans (hb1.mono hB.size)
  refine LS.vv rfl rfl (by decide) (Val.eql rfl rfl) ?_
  refine LS.vv rfl rfl (by decide) (Val.assign rfl) ?_
  refine LS.nil ?_
  refine W.ret ?_
  refine ret1 (by first | exact .inl rfl | exact .inr rfl) rfl ?_
  refine ⟨_, rfl, ?_, hB⟩
  rw [← he, decide_eq_true_iff]
  omega

theorem spk_len {m : Nat} {rows : List Nat} (h : ∀ x ∈ rows, x < 2 ^ m) {k : Nat} (hk : k ≤ rows.length) (h8 : rows.length ≤ 8) : (spk rows k).length ≤ 256 ∧ 1 ≤ (spk rows k).length := by
  obtain ⟨e, he, hl⟩ := (spk_inv h k hk).pow
  have : 2 ^ e ≤ 2 ^ 8 := Nat.pow_le_pow_right (by omega) (by omega)
  have := Nat.two_pow_pos e
  omega
theorem gn_mem {l : List Nat} {x : Nat} : (∃ j, j < l.length ∧ gn l j = x) ↔ x ∈ l := by
  constructor
  · rintro ⟨j, hj, rfl⟩; rw [gn_lt hj]; exact List.getElem_mem hj
  · intro h
    obtain ⟨j, hj, rfl⟩ := List.getElem_of_mem h
    exact ⟨j, hj, gn_lt hj⟩
theorem map_take_succ (l : List Nat) (r : Nat) {j : Nat} (hj : j < l.length) : l ++ (l.take (j + 1)).map (· ^^^ r) = l ++ (l.take j).map (· ^^^ r) ++ [gn l j ^^^ r] := by
  rw [List.take_succ_eq_append_getElem hj, List.map_append, gn_lt hj]; simp
theorem uv_pre {a b : List Nat} : uv a <+: uv (a ++ b) := ⟨uv b, by simp [uv]⟩

theorem all_any (cs : List Nat) (p : Option Addr) (c : Nat) (m : Nat) (w0 : World) (hr : Rd w0 p (uv cs)) (h8 : cs.length ≤ 8) (hm : m ≤ 12) (hcs : ∀ x ∈ cs, x < 2 ^ m) :
    CallsV Try.prog 32 #[.slice p cs.length c] w0 (fun v w => ∃ (p2 : Option Addr) (c2 : Nat) (L : List Nat), v = .slice p2 L.length c2 ∧ Own w w0.heap.size 37 p2 L.length c2 (uv L) ∧ L.Perm (spn cs) ∧ L.Pairwise (· ≤ ·) ∧ Below w0.heap.size w0 w) := by
  refine enter1 Try.func32 rfl Try.ntmps32 (by simp) rfl ?_
  have hB := Below.refl w0.heap.size w0
  simp only [argLoc]
  have hM := Mem.nil w0 w0.heap.size
  have hp12 : 2 ^ m ≤ 2 ^ 12 := Nat.pow_le_pow_right (by omega) hm
  refine W.seqR ?_
  refine LS.vv rfl rfl (by decide) (Val.assign rfl) ?_
  refine LS.nil ?_
  refine W.seqR ?_
  refine LS.m rfl (Step.lit rfl rfl (by decide) Try.underlying32 elem37 rfl rfl (by omega) (by simp [Value.oneCell']) (Nat.le_refl _) ?_)
  rintro w1 hO1 hg1 hbl1 hsz1
  replace hM := hM.add hB.size hbl1 hO1
  replace hB := hB.trans (hbl1.mono hB.size)
  skip
  refine LS.vv rfl rfl (by decide) (Val.assign rfl) ?_
  refine LS.nil ?_
  refine W.seq ?_
  refine W.seqR ?_
  refine LS.vv rfl rfl (by decide) (Val.move rfl) ?_
  refine LS.vv rfl rfl (by decide) (Val.len Try.underlying32 rfl) ?_
  refine LS.vv rfl rfl (by decide) (Val.cast (v := .int .i64 ((0 : Nat) : Int)) (Val.move rfl) rfl) ?_
  refine LS.nil ?_
  refine W.block ?_
  refine W.loop (α := Nat × Option Addr × Nat) (fun g => [(3, .slice g.2.1 (spk cs g.1).length g.2.2), (11, .int .i64 (g.1 : Int))]) [(9, _), (10, _)] (fun g w => (g.1 ≤ cs.length) ∧ Mem w w0.heap.size [⟨37, g.2.1, (spk cs g.1).length, g.2.2, uv (spk cs g.1)⟩] ∧ Below w0.heap.size w0 w) (fun g => cs.length - g.1) ((0, some ⟨w0.heap.size, 0, none⟩, 1)) (Sub.cons rfl (Sub.cons rfl (Sub.nil _))) (Sub.cons rfl (Sub.cons rfl (Sub.nil _))) ?_ ?_
  · exact ⟨Nat.zero_le _, hM, hB⟩
  rintro ⟨k, p1, c1⟩ w2 ⟨hk, hM, hB⟩
  try simp only at hM
  simp only [List.cons_append, List.nil_append]
  simp only at hk
  have hI := spk_inv hcs k hk
  have hlen := spk_len hcs hk h8
  have hcap := hM.o0.le_cap
  refine W.seqR ?_
  refine LS.vv rfl rfl (by decide) (Val.lss rfl rfl) ?_
  refine LS.nil ?_
  refine W.seq ?_
  first | refine W.condD rfl (fun hc1 => ?_) (fun hc1 => ?_) | refine W.cond rfl (fun hc1 => ?_) (fun hc1 => ?_)
  ·
    have hrk : gn cs k < 2 ^ m := hcs _ (by rw [gn_lt (show k < cs.length by omega)]; exact List.getElem_mem _)
    have hss := spk_succ (rows := cs) (k := k) (by omega)
    refine W.skip ?_
    refine thenP_normal ?_
    refine W.seq ?_
    refine W.block ?_
    refine W.seqR ?_
    refine LS.vv rfl rfl (by decide) (Val.index1 Try.underlying32 elem37 rfl rfl (by omega) ((hr.below hB)) (uv_lt (by omega))) ?_
    refine LS.m rfl (Step.load rfl rfl (by decide) flat37 rfl ((hr.below hB)) (uv_at (by omega)) ?_)
    refine LS.vv rfl rfl (by decide) (Val.assign rfl) ?_
    refine LS.nil ?_
    refine W.seq ?_
    refine W.seqR ?_
    refine LS.vv rfl rfl (by decide) (Val.move rfl) ?_
    refine LS.vv rfl rfl (by decide) (Val.move rfl) ?_
    refine LS.m rfl (Step.call body46 rfl rfl (by decide) rfl (CallsV.mono (contains_any (spk cs k) _ _ (spk cs k).length (gn cs k) _ hM.o0.rd (Nat.le_refl _) (by omega)) ?_))
    rintro _ w3 ⟨b, rfl, hbb, hb3⟩
    replace hM := hM.below hb3
    replace hB := hB.trans (hb3.mono hB.size)
    rw [gn_mem] at hbb
    refine LS.nil ?_
    first | refine W.condD rfl (fun hc2 => ?_) (fun hc2 => ?_) | refine W.cond rfl (fun hc2 => ?_) (fun hc2 => ?_)
    ·
      have hin := hbb.1 (by assumption)
      rw [spS, if_pos hin] at hss
      refine W.exit ?_
      refine thenP_exit ?_
      refine inBlk_exit ?_
      refine thenP_normal ?_
      refine W.reg ?_
      first | refine LS.vv rfl rfl (by decide) (Val.addN (j := 1) rfl rfl (by omega)) ?_ | refine LS.vv rfl rfl (by decide) (Val.add64 rfl rfl (by omega)) ?_
      refine LS.vv rfl rfl (by decide) (Val.move rfl) ?_
      refine LS.nil ?_
      refine thenP_normal ?_
      first
        | (refine ⟨(k + 1, p1, c1), ?_, ?_, ⟨by simp only; omega, ?_, hB⟩, by simp only; omega⟩
           · exact Sub.cons' rfl (by simp only [hss]) (Sub.cons rfl (Sub.nil _))
           · repeat (first | exact Sub.nil _ | refine Sub.cons rfl ?_)
           · simp only [hss]; exact hM)
        | (obtain rfl : j = (spk cs k).length := by omega
           rw [List.take_length, ← hss] at hM
           have hll := congrArg List.length hss
           rw [List.length_append, List.length_map] at hll
           refine ⟨(k + 1, pj, cj), ?_, ?_, ⟨by simp only; omega, ?_, hB⟩, by simp only; omega⟩
           · exact Sub.cons' rfl (by simp only [hll]) (Sub.cons rfl (Sub.nil _))
           · repeat (first | exact Sub.nil _ | refine Sub.cons rfl ?_)
           · simp only [hll]; exact hM)
    ·
      have hin : ¬ gn cs k ∈ spk cs k := fun h => by (have := hbb.2 h; simp_all)
      rw [spS, if_neg hin] at hss
      refine W.skip ?_
      refine thenP_normal ?_
      refine W.seqR ?_
      refine LS.vv rfl rfl (by decide) (Val.move rfl) ?_
      refine LS.vv rfl rfl (by decide) (Val.len Try.underlying32 rfl) ?_
      refine LS.vv rfl rfl (by decide) (Val.cast (v := .int .i64 ((0 : Nat) : Int)) (Val.move rfl) rfl) ?_
      refine LS.nil ?_
      refine W.block ?_
      obtain ⟨g1, rfl⟩ := hM.o0.head (by omega)
      refine W.loop (α := Nat × Option Addr × Nat) (fun g => [(3, .slice g.2.1 ((spk cs k).length + g.1) g.2.2), (20, .int .i64 (g.1 : Int))]) [(5, _), (9, _), (10, _), (11, _), (18, _), (19, _)] (fun g w => (g.1 ≤ (spk cs k).length ∧ Rd w (some ⟨g1, 0, none⟩) (uv (spk cs k))) ∧ Mem w w0.heap.size [⟨37, g.2.1, (spk cs k).length + g.1, g.2.2, uv ((spk cs k) ++ ((spk cs k).take g.1).map (· ^^^ gn cs k))⟩] ∧ Below w0.heap.size w0 w) (fun g => (spk cs k).length - g.1) ((0, some ⟨g1, 0, none⟩, c1)) (Sub.cons rfl (Sub.cons rfl (Sub.nil _))) (Sub.cons rfl (Sub.cons rfl (Sub.cons rfl (Sub.cons rfl (Sub.cons rfl (Sub.cons rfl (Sub.nil _))))))) ?_ ?_
      · refine ⟨⟨Nat.zero_le _, hM.o0.rd⟩, ?_, hB⟩; simp only [List.take_zero, List.map_nil, List.append_nil, Nat.add_zero]; exact hM
      rintro ⟨j, pj, cj⟩ w4 ⟨⟨hj, hrd⟩, hM, hB⟩
      try simp only at hM
      simp only [List.cons_append, List.nil_append]
      simp only at hj hrd
      refine W.seqR ?_
      refine LS.vv rfl rfl (by decide) (Val.lss rfl rfl) ?_
      refine LS.nil ?_
      refine W.seq ?_
      first | refine W.condD rfl (fun hc3 => ?_) (fun hc3 => ?_) | refine W.cond rfl (fun hc3 => ?_) (fun hc3 => ?_)
      ·
        refine W.skip ?_
        refine thenP_normal ?_
        refine W.seq ?_
        refine W.block ?_
        refine W.seqR ?_
        refine LS.vv rfl rfl (by decide) (Val.index1 Try.underlying32 elem37 rfl rfl (by omega) (hrd) (uv_lt (by omega))) ?_
        refine LS.m rfl (Step.load rfl rfl (by decide) flat37 rfl (hrd) (uv_at (by omega)) ?_)
        refine LS.vv rfl rfl (by decide) (Val.assign rfl) ?_
        refine LS.nil ?_
        refine W.reg ?_
        refine LS.vv rfl rfl (by decide) (Val.move rfl) ?_
        refine LS.vv rfl rfl (by decide) (Val.move rfl) ?_
        refine LS.vv rfl rfl (by decide) (Val.move rfl) ?_
        have hx32 : gn (spk cs k) j < 2 ^ m := hI.lt _ (by rw [gn_lt (show j < (spk cs k).length by omega)]; exact List.getElem_mem _)
        have hxx := Nat.xor_lt_two_pow hx32 hrk
        refine LS.vv rfl rfl (by decide) (Val.xorU32 rfl rfl (by omega) (by omega)) ?_
        refine LS.m rfl (Step.lit rfl rfl (by decide) Try.underlying32 elem37 rfl rfl (by omega) (by simp [Value.oneCell']) (Nat.le_refl _) ?_)
        rintro w5 hO5 hg5 hbl5 hsz5
        replace hrd := hrd.below hbl5
        replace hM := hM.add hB.size hbl5 hO5
        try simp only [uv_app1, uv_app, uv_set, uv_rep, uv_one, uv_cons, uv_take, uv_drop, List.nil_append] at hM
        replace hB := hB.trans (hbl5.mono hB.size)
        generalize w4.heap.size = gg5 at *
        refine LS.m rfl (Step.append4 (B := w0.heap.size) rfl rfl (by decide) Try.underlying32 elem37 rfl rfl rfl rfl (hM.o1) (hM.o0.rd) (by first | rfl | (simp; done) | (simp; omega)) (by first | exact one_map _ (fun _ => rfl) _ | simp [Value.oneCell']) (by omega) (by omega) hB.size ?_)
        rintro p6 c6 w6 hO6 hg6 hbl6 hbk6 hK6
        replace hrd := keep_old hM.o1 uv_pre hrd hg6 hK6
        replace hM := hM.s1 hg6 hO6 hbk6
        replace hM := hM.tail
        try simp only [uv_app1, uv_app, uv_set, uv_rep, uv_one, uv_cons, uv_take, uv_drop, List.nil_append] at hM
        replace hB := hB.trans hbl6
        refine LS.vv rfl rfl (by decide) (Val.assign rfl) ?_
        refine LS.nil ?_
        refine inBlk_normal ?_
        refine thenP_normal ?_
        refine W.reg ?_
        first | refine LS.vv rfl rfl (by decide) (Val.addN (j := 1) rfl rfl (by omega)) ?_ | refine LS.vv rfl rfl (by decide) (Val.add64 rfl rfl (by omega)) ?_
        refine LS.vv rfl rfl (by decide) (Val.move rfl) ?_
        refine LS.nil ?_
        refine thenP_normal ?_
        rw [← map_take_succ _ _ (by omega)] at hM
        refine ⟨(j + 1, p6, c6), ?_, ?_, ⟨⟨by simp only; omega, hrd⟩, hM, hB⟩, by simp only; omega⟩
        · exact (Sub.cons rfl (Sub.cons rfl (Sub.nil _)))
        · repeat (first | exact Sub.nil _ | refine Sub.cons rfl ?_)
      ·
        refine W.exit ?_
        refine thenP_exit ?_
        refine thenP_exit ?_
        refine inBlk_exit ?_
        refine inBlk_normal ?_
        refine thenP_normal ?_
        refine W.reg ?_
        first | refine LS.vv rfl rfl (by decide) (Val.addN (j := 1) rfl rfl (by omega)) ?_ | refine LS.vv rfl rfl (by decide) (Val.add64 rfl rfl (by omega)) ?_
        refine LS.vv rfl rfl (by decide) (Val.move rfl) ?_
        refine LS.nil ?_
        refine thenP_normal ?_
        first
          | (refine ⟨(k + 1, p1, c1), ?_, ?_, ⟨by simp only; omega, ?_, hB⟩, by simp only; omega⟩
             · exact Sub.cons' rfl (by simp only [hss]) (Sub.cons rfl (Sub.nil _))
             · repeat (first | exact Sub.nil _ | refine Sub.cons rfl ?_)
             · simp only [hss]; exact hM)
          | (obtain rfl : j = (spk cs k).length := by omega
             rw [List.take_length, ← hss] at hM
             have hll := congrArg List.length hss
             rw [List.length_append, List.length_map] at hll
             refine ⟨(k + 1, pj, cj), ?_, ?_, ⟨by simp only; omega, ?_, hB⟩, by simp only; omega⟩
             · exact Sub.cons' rfl (by simp only [hll]) (Sub.cons rfl (Sub.nil _))
             · repeat (first | exact Sub.nil _ | refine Sub.cons rfl ?_)
             · simp only [hll]; exact hM)
  ·
    refine W.exit ?_
    refine thenP_exit ?_
    refine thenP_exit ?_
    refine inBlk_exit ?_
    refine thenP_normal ?_
    refine W.seqR ?_
    refine LS.vv rfl rfl (by decide) (Val.move rfl) ?_
    refine LS.m rfl (Step.call body47 rfl rfl (by decide) rfl (CallsV.mono (sort_u32 (spk cs k) p1 _ c1 w0.heap.size [] _ hM hB.size rfl (by omega)) ?_))
    rintro _ w7 ⟨L, rfl, hL1, hL2, hM7, hb7⟩
    replace hM := hM7
    replace hB := hB.trans hb7
    refine LS.nil ?_
    refine W.seqR ?_
    refine LS.vv rfl rfl (by decide) (Val.move rfl) ?_
    refine LS.vv rfl rfl (by decide) (Val.assign rfl) ?_
    refine LS.nil ?_
    refine W.ret ?_
    refine ret1 (by first | exact .inl rfl | exact .inr rfl) rfl ?_
    obtain rfl : k = cs.length := by omega
    have hpl := hL1.length_eq
    exact ⟨p1, c1, L, by rw [hpl], by rw [hpl]; exact hM.o0, hL1, hL2, hB⟩

theorem spanS_any (n : Int) (cs : List Nat) (p : Option Addr) (c : Nat) (w0 : World) (hr : Rd w0 p (uv cs)) (hl : cs.length ≤ 9223372036854775807) (hcs : ∀ x ∈ cs, x < 4294967296) :
    CallsV Try.prog 13 #[.int .i64 n, .slice p cs.length c] w0 (fun v w => ∃ (p2 : Option Addr) (c2 : Nat) (L : List Nat) (e : Nat), v = .tuple #[.slice p2 L.length c2, .int .i64 (e : Int)] ∧ Own w w0.heap.size 37 p2 L.length c2 (uv L) ∧ (e = 0 ↔ OkR n cs) ∧ (e = 0 → L.Perm (spn cs) ∧ L.Pairwise (· ≤ ·)) ∧ Below w0.heap.size w0 w) := by
  refine enter2 Try.func13 rfl Try.ntmps13 (by simp) rfl ?_
  have hB := Below.refl w0.heap.size w0
  simp only [argLoc, Nat.zero_add]
  have hM := Mem.nil w0 w0.heap.size
  refine W.seqR ?_
  refine LS.vv rfl rfl (by decide) (Val.assign rfl) ?_
  refine LS.vv rfl rfl (by decide) (Val.cast (v := .int .i64 ((0 : Nat) : Int)) (Val.assign rfl) rfl) ?_
  refine LS.nil ?_
  refine W.seq ?_
  refine W.seqR ?_
  refine LS.vv rfl rfl (by decide) (Val.move rfl) ?_
  refine LS.vv rfl rfl (by decide) (Val.move rfl) ?_
  refine LS.m rfl (Step.call body31 rfl rfl (by decide) rfl (CallsV.mono (spanCheck_any n cs _ _ _ (hr.below hB) hl hcs) ?_))
  rintro _ w1 ⟨e, rfl, he, hb1⟩
  replace hM := hM.below hb1
  replace hB := hB.trans (hb1.mono hB.size)
  refine LS.vv rfl rfl (by decide) (Val.assign rfl) ?_
  refine LS.nil ?_
  refine W.seqR ?_
  refine LS.vv rfl rfl (by decide) (Val.move rfl) ?_
  refine LS.vv rfl rfl (by decide) (Val.neq rfl rfl) ?_
  refine LS.nil ?_
  first | refine W.condD rfl (fun hc1 => ?_) (fun hc1 => ?_) | refine W.cond rfl (fun hc1 => ?_) (fun hc1 => ?_)
  ·
    refine W.seqR ?_
    refine LS.vv rfl rfl (by decide) (Val.move rfl) ?_
    refine LS.vv rfl rfl (by decide) (Val.assign rfl) ?_
    refine LS.vv rfl rfl (by decide) (Val.assign rfl) ?_
    refine LS.nil ?_
    refine W.ret ?_
    refine thenP_ret ?_
    refine ret2 (by first | exact .inl rfl | exact .inr rfl) rfl rfl ?_
    first | exact ⟨none, 0, [], e, rfl, Own.nil _ _ _, he, fun h => by omega, hB⟩ | exact ⟨p2, c2, L, 0, rfl, hM.o0, ⟨fun _ => hok, fun _ => rfl⟩, fun _ => ⟨hL1, hL2⟩, hB⟩
  ·
    refine W.skip ?_
    refine thenP_normal ?_
    refine W.seqR ?_
    refine LS.vv rfl rfl (by decide) (Val.move rfl) ?_
    have hok := he.1 (by omega)
    have hn1 := hok.1.2.1
    refine LS.m rfl (Step.call body32 rfl rfl (by decide) rfl (CallsV.mono (all_any cs _ _ n.toNat _ (hr.below hB) hok.2 (by omega) hok.1.2.2) ?_))
    rintro _ w2 ⟨p2, c2, L, rfl, hOL, hL1, hL2, hb2⟩
    replace hM := hM.add hB.size hb2 hOL
    replace hB := hB.trans (hb2.mono hB.size)
    refine LS.vv rfl rfl (by decide) (Val.assign rfl) ?_
    refine LS.vv rfl rfl (by decide) (Val.cast (v := .int .i64 ((0 : Nat) : Int)) (Val.assign rfl) rfl) ?_
    refine LS.nil ?_
    refine W.ret ?_
    refine ret2 (by first | exact .inl rfl | exact .inr rfl) rfl rfl ?_
    first | exact ⟨none, 0, [], e, rfl, Own.nil _ _ _, he, fun h => by omega, hB⟩ | exact ⟨p2, c2, L, 0, rfl, hM.o0, ⟨fun _ => hok, fun _ => rfl⟩, fun _ => ⟨hL1, hL2⟩, hB⟩

end Go.Proofs.Ytjmpkmomlpgbdaa
