/-
  What most parts say: muller.vote.
-/
import Derived.Test.YtjmpkmomlpgbdaaMuller2
import Derived.Test.YtjmpkmomlpgbdaaVmapr
import Derived.Test.YtjmpkmomlpgbdaaVandnot
namespace Go.Proofs.Ytjmpkmomlpgbdaa
open Go Go.RowKit V
set_option linter.unusedVariables false
set_option linter.unusedSimpArgs false

def vf (L : List Bool) (q k : Nat) : Nat → Option Value := fun o => if (List.range k).any (fun x => adn x q == o) = true then some (.bool (cs (gb L) q o k)) else none
theorem any_succ (q k o : Nat) : (List.range (k + 1)).any (fun x => adn x q == o) = ((List.range k).any (fun x => adn x q == o) || adn k q == o) := by
  rw [List.range_succ, List.any_append]; simp
theorem cs_none {f : Nat → Bool} {q o : Nat} : ∀ k, (List.range k).any (fun x => adn x q == o) = false → cs f q o k = false
  | 0, _ => rfl
  | k + 1, h => by
    rw [any_succ, Bool.or_eq_false_iff] at h
    rw [cs, cs_none k h.1, h.2]; simp
theorem vf_get (L : List Bool) (q k o : Nat) : (vf L q k o).getD (.bool false) = .bool (cs (gb L) q o k) := by
  unfold vf
  cases h : (List.range k).any (fun x => adn x q == o) with
  | true => rfl
  | false => rw [cs_none k h]; rfl
theorem vf_step (L : List Bool) (q k : Nat) : upd (vf L q k) (adn k q) (.bool (decide (cs (gb L) q (adn k q) k ≠ gb L k))) = vf L q (k + 1) := by
  funext o
  unfold upd
  by_cases h : o = adn k q
  · subst h
    rw [if_pos rfl]
    unfold vf
    rw [any_succ]
    simp only [beq_self_eq_true, Bool.or_true, if_true, cs, Bool.and_true]
    cases cs (gb L) q (adn k q) k <;> cases gb L k <;> rfl
  · rw [if_neg h]
    have hb : (adn k q == o) = false := by rw [beq_eq_false_iff_ne]; exact fun e => h e.symm
    unfold vf
    rw [any_succ, hb, Bool.or_false, cs, hb, Bool.and_false, Bool.xor_false]
theorem key_any : ∀ m, m < 5 → ∀ q, q < 16 → ∀ o, o < 16 → (List.range (2 ^ m)).any (fun x => adn x q == o) = (decide (o < 2 ^ m) && (o &&& q == 0)) := by decide +kernel
theorem adn_lt16 : ∀ x, x < 16 → ∀ q, q < 16 → adn x q < 16 := by decide +kernel
theorem vf_some {L : List Bool} {q m : Nat} (hm : m < 5) (hq : q < 16) (o : Nat) : (vf L q (2 ^ m) o).isSome = (decide (o < 2 ^ m) && (o &&& q == 0)) := by
  have h16 : 2 ^ m ≤ 16 := Nat.pow_le_pow_right (n := 2) (by omega) (show m ≤ 4 by omega)
  by_cases ho : o < 16
  · rw [← key_any m hm q hq o ho]
    unfold vf
    cases (List.range (2 ^ m)).any (fun x => adn x q == o) <;> rfl
  · have h1 : (List.range (2 ^ m)).any (fun x => adn x q == o) = false := by
      rw [List.any_eq_false]
      intro x hx
      have := adn_lt16 x (by have := List.mem_range.1 hx; omega) q hq
      simp; omega
    unfold vf
    rw [h1]
    simp; omega
def ckey (q m : Nat) : Nat → Bool := fun o => decide (o < 2 ^ m) && (o &&& q == 0)
theorem cnt_filter (g : Nat → Bool) : ∀ n, cnt g n = ((List.range n).filter g).length
  | 0 => rfl
  | n + 1 => by
    rw [cnt, List.range_succ, List.filter_append, List.length_append, cnt_filter g n]
    cases hg : g n <;> simp [hg]
/-- all keys, in whatever order they came -/
theorem keys_perm {L : List Bool} {q m : Nat} (hm : m < 5) (hq : q < 16) {ks : List Nat} (hnd : ks.Nodup) (hall : ∀ a, a ∈ ks ↔ (vf L q (2 ^ m) a).isSome = true) : ks.Perm ((List.range (2 ^ m)).filter fun o => o &&& q == 0) := by
  refine (List.perm_ext_iff_of_nodup hnd (List.nodup_range.filter _)).2 fun a => ?_
  rw [hall, vf_some hm hq, List.mem_filter, List.mem_range, Bool.and_eq_true, decide_eq_true_iff]
def yesK (L : List Bool) (q m : Nat) (ks : List Nat) : Nat := (ks.filter fun o => cs (gb L) q o (2 ^ m)).length
theorem yes_all {L : List Bool} {q m : Nat} (hm : m < 5) (hq : q < 2 ^ m) {ks : List Nat} (hnd : ks.Nodup) (hall : ∀ a, a ∈ ks ↔ (vf L q (2 ^ m) a).isSome = true) : yesK L q m ks = yesP (gb L) q m ∧ ks.length = 2 ^ (m - deg q) := by
  have h16 : 2 ^ m ≤ 16 := Nat.pow_le_pow_right (n := 2) (by omega) (show m ≤ 4 by omega)
  have hp := keys_perm hm (by omega) hnd hall
  constructor
  · unfold yesK yesP
    rw [(hp.filter _).length_eq, List.filter_filter, cnt_filter]
    congr 1
    refine List.filter_congr fun o _ => ?_
    rw [Bool.and_comm]
  · rw [hp.length_eq, ← cnt_filter, keys_many m hm q hq]
theorem yes_le (L : List Bool) (q m : Nat) (ks : List Nat) : yesK L q m ks ≤ ks.length := List.length_filter_le _ _
theorem yes_app (L : List Bool) (q m : Nat) (ks : List Nat) (a : Nat) : yesK L q m (ks ++ [a]) = yesK L q m ks + (if cs (gb L) q a (2 ^ m) = true then 1 else 0) := by
  unfold yesK
  rw [List.filter_append, List.length_append]
  cases h : cs (gb L) q a (2 ^ m) <;> simp [h]
theorem vf_val {L : List Bool} {q m a : Nat} {v : Value} (h : vf L q (2 ^ m) a = some v) : v = .bool (cs (gb L) q a (2 ^ m)) := by
  unfold vf at h
  split at h
  · cases h; rfl
  · cases h
theorem ks_le {L : List Bool} {q m : Nat} (hm : m < 5) (hq : q < 16) {ks : List Nat} (hnd : ks.Nodup) (h : ∀ a ∈ ks, ∃ v, vf L q (2 ^ m) a = some v) : ks.length ≤ 16 := by
  have h16 : 2 ^ m ≤ 16 := Nat.pow_le_pow_right (n := 2) (by omega) (show m ≤ 4 by omega)
  have hp : ks.Perm ((List.range 16).filter fun a => decide (a ∈ ks)) := by
    refine (List.perm_ext_iff_of_nodup hnd (List.nodup_range.filter _)).2 fun a => ?_
    rw [List.mem_filter, List.mem_range, decide_eq_true_iff]
    refine ⟨fun ha => ⟨?_, ha⟩, fun h => h.2⟩
    obtain ⟨v, hv⟩ := h a ha
    have := vf_some (L := L) hm hq a
    rw [hv] at this
    simp at this
    omega
  have hsub := List.length_filter_le (fun a => decide (a ∈ ks)) (List.range 16)
  rw [← hp.length_eq] at hsub
  simpa using hsub

theorem vote_any (L : List Bool) (q m : Nat) (p : Option Addr) (n c : Nat) (w0 : World) (hr : Rd w0 p (bv L)) (hn : L.length = n) (hm : m < 5) (hnm : n = 2 ^ m) (hq : q < 2 ^ m) :
    CallsV Try.prog 30 #[.slice p n c, .int .i64 (q : Int)] w0 (fun v w => v = .bool (decide (2 ^ (m - deg q) < 2 * yesP (gb L) q m)) ∧ Below w0.heap.size w0 w) := by
  refine enter1 Try.func30 rfl Try.ntmps30 (by simp) rfl ?_
  have hB := Below.refl w0.heap.size w0
  simp only [argLoc, Nat.zero_add]
  subst hn
  have h16 : 2 ^ m ≤ 16 := Nat.pow_le_pow_right (n := 2) (by omega) (show m ≤ 4 by omega)
  have KL := keys_nat (P := Try.prog) (q := .i64) Try.underlying3
  refine W.seqR ?_
  refine LS.vv rfl rfl (by decide) (Val.assign rfl) ?_
  refine LS.nil ?_
  refine W.seqR ?_
  refine LS.m rfl (Step.makeMapR (enc := encN .i64) rfl rfl (by decide) ?_)
  rintro w1 hm1 hbl1 hsz1
  replace hB := hB.trans (hbl1.mono hB.size)
  have hiz : w0.heap.size < w1.heap.size := by omega
  refine LS.vv rfl rfl (by decide) (Val.assign rfl) ?_
  refine LS.nil ?_
  refine W.seq ?_
  refine W.seqR ?_
  refine LS.vv rfl rfl (by decide) (Val.move rfl) ?_
  refine LS.vv rfl rfl (by decide) (Val.len Try.underlying22 rfl) ?_
  refine LS.vv rfl rfl (by decide) (Val.cast (v := .int .i64 ((0 : Nat) : Int)) (Val.move rfl) rfl) ?_
  refine LS.nil ?_
  refine W.block ?_
  refine W.loop (α := Nat) (fun k => [(14, .int .i64 (k : Int))]) [(1, _), (5, _), (12, _), (13, _)] (fun k w => (k ≤ L.length ∧ MapR (encN .i64) w w0.heap.size w0.heap.size (vf L q k) ∧ w0.heap.size < w.heap.size) ∧ Below w0.heap.size w0 w) (fun k => L.length - k) (0) (Sub.cons rfl (Sub.nil _)) (Sub.cons rfl (Sub.cons rfl (Sub.cons rfl (Sub.cons rfl (Sub.nil _))))) ?_ ?_
  · exact ⟨⟨Nat.zero_le _, hm1, hiz⟩, hB⟩
  rintro k w1 ⟨⟨hk, hmk, hiz⟩, hB⟩
  simp only [List.cons_append, List.nil_append]
  have hadl := fun h : k < 16 => (adn_key k h q (by omega)).2
  refine W.seqR ?_
  refine LS.vv rfl rfl (by decide) (Val.lss rfl rfl) ?_
  refine LS.nil ?_
  refine W.seq ?_
  first | refine W.condD rfl (fun hc1 => ?_) (fun hc1 => ?_) | refine W.cond rfl (fun hc1 => ?_) (fun hc1 => ?_)
  ·
    refine W.skip ?_
    refine thenP_normal ?_
    refine W.seq ?_
    refine W.block ?_
    refine W.seqR ?_
    refine LS.vv rfl rfl (by decide) (Val.move rfl) ?_
    refine LS.vv rfl rfl (by decide) (Val.index1 Try.underlying22 elem4 rfl rfl (by omega) hr (bv_lt (by omega))) ?_
    refine LS.m rfl (Step.load rfl rfl (by decide) flat4 rfl (hr.below hB) (bv_at (by omega)) ?_)
    refine LS.vv rfl rfl (by decide) (Val.assign rfl) ?_
    refine LS.vv rfl rfl (by decide) (Val.assign rfl) ?_
    refine LS.nil ?_
    refine W.reg ?_
    refine LS.vv rfl rfl (by decide) (Val.move rfl) ?_
    refine LS.vv rfl rfl (by decide) (Val.move rfl) ?_
    refine LS.vv rfl rfl (by decide) (Val.move rfl) ?_
    refine LS.vv rfl rfl (by decide) (Val.cast (v := .int .i64 (adn k q : Int)) (Val.andNot64 rfl rfl (by omega) (by omega)) (by rfl)) ?_
    refine LS.vv rfl rfl (by decide) (Val.move rfl) ?_
    refine LS.vv rfl rfl (by decide) (Val.move rfl) ?_
    refine LS.vv rfl rfl (by decide) (Val.move rfl) ?_
    refine LS.vv rfl rfl (by decide) (Val.cast (v := .int .i64 (adn k q : Int)) (Val.andNot64 rfl rfl (by omega) (by omega)) (by rfl)) ?_
    refine LS.m rfl (Step.lookup1 (k := adn k q) rfl rfl (by decide) KL Try.underlying67 elem4 rfl rfl hmk.own (vf_get L q k _) ?_)
    refine LS.vv rfl rfl (by decide) (Val.move rfl) ?_
    refine LS.vv rfl rfl (by decide) (Val.neqB Try.underlying4 rfl rfl) ?_
    refine LS.m rfl (Step.mapPutR (k := adn k q) (.inl rfl) rfl KL Try.underlying67 rfl rfl rfl hmk hB.size ?_)
    rintro w8 hmk2 hg8 hbl8 hsz8
    replace hB := hB.trans hbl8
    refine LS.nil ?_
    refine inBlk_normal ?_
    refine thenP_normal ?_
    refine W.reg ?_
    first | refine LS.vv rfl rfl (by decide) (Val.addN (j := 1) rfl rfl (by omega)) ?_ | refine LS.vv rfl rfl (by decide) (Val.add64 rfl rfl (by omega)) ?_
    refine LS.vv rfl rfl (by decide) (Val.move rfl) ?_
    refine LS.nil ?_
    refine thenP_normal ?_
    rw [vf_step] at hmk2
    refine ⟨k + 1, ?_, ?_, ⟨⟨by omega, hmk2, by omega⟩, hB⟩, by omega⟩
    · exact (Sub.cons rfl (Sub.nil _))
    · repeat (first | exact Sub.nil _ | refine Sub.cons rfl ?_)
  ·
    refine W.exit ?_
    refine thenP_exit ?_
    refine thenP_exit ?_
    refine inBlk_exit ?_
    refine thenP_normal ?_
    refine W.seqR ?_
    refine LS.vv rfl rfl (by decide) (Val.cast (v := .int .i64 ((0 : Nat) : Int)) (Val.assign rfl) rfl) ?_
    refine LS.nil ?_
    refine W.seq ?_
    refine W.seqR ?_
    refine LS.vv rfl rfl (by decide) (Val.move rfl) ?_
    obtain rfl : k = L.length := by omega
    rw [hnm] at hmk
    refine LS.m rfl (Step.rangeR rfl rfl (by decide) Try.underlying67 rfl hmk hB.size ?_)
    rintro w9 hmr hit hbl9
    replace hB := hB.trans (hbl9.mono hB.size)
    generalize w1.heap.size = itb at *
    refine LS.nil ?_
    refine W.block ?_
    refine W.loop (α := List Nat) (fun ks => [(8, .int .i64 (yesK L q m ks : Int))]) [(5, _), (32, _)] (fun ks w => (MapR (encN .i64) w w0.heap.size w0.heap.size (vf L q (2 ^ m)) ∧ OwnIter (encN .i64) w w0.heap.size w0.heap.size itb ks ∧ ∀ a ∈ ks, ∃ v, vf L q (2 ^ m) a = some v) ∧ Below w0.heap.size w0 w) (fun ks => 16 - ks.length) ([]) (Sub.cons rfl (Sub.nil _)) (Sub.cons rfl (Sub.cons rfl (Sub.nil _))) ?_ ?_
    · exact ⟨⟨hmr, hit, by simp⟩, hB⟩
    rintro ks w2 ⟨⟨hmr, hit, hks⟩, hB⟩
    simp only [List.cons_append, List.nil_append]
    have hkl := ks_le hm (show q < 16 by omega) hit.nodup hks
    have hyl := yes_le L q m ks
    refine W.seqR ?_
    refine LS.m rfl (Step.nextR KL rfl rfl (by decide) rfl hmr hit hB.size ?_)
    rintro nb ncs w11 hnth hmr1 hbl11 hfin hnext
    replace hB := hB.trans hbl11
    refine LS.vv rfl rfl (by decide) (Val.extract rfl hnth) ?_
    refine LS.nil ?_
    refine W.seq ?_
    first | refine W.condD rfl (fun hc2 => ?_) (fun hc2 => ?_) | refine W.cond rfl (fun hc2 => ?_) (fun hc2 => ?_)
    ·
      refine W.skip ?_
      refine thenP_normal ?_
      refine W.block ?_
      refine W.seqR ?_
      obtain ⟨ka, kv, hkv, hkn, hit1⟩ := hnext (by assumption)
      obtain rfl := vf_val hkv
      have hyap := yes_app L q m ks ka
      refine LS.m rfl (Step.entryR KL rfl rfl (by decide) rfl hmr1 hit1 hkv ?_)
      refine LS.vv rfl rfl (by decide) (Val.extract (l := [encN .i64 ka, .bool (cs (gb L) q ka (2 ^ m))]) rfl rfl) ?_
      refine LS.vv rfl rfl (by decide) (Val.assign rfl) ?_
      refine LS.nil ?_
      refine W.seqR ?_
      refine LS.vv rfl rfl (by decide) (Val.move rfl) ?_
      refine LS.nil ?_
      first | refine W.condD rfl (fun hc3 => ?_) (fun hc3 => ?_) | refine W.cond rfl (fun hc3 => ?_) (fun hc3 => ?_)
      ·
        refine W.reg ?_
        refine LS.vv rfl rfl (by decide) (Val.move rfl) ?_
        first | refine LS.vv rfl rfl (by decide) (Val.addN (j := 1) rfl rfl (by omega)) ?_ | refine LS.vv rfl rfl (by decide) (Val.add64 rfl rfl (by omega)) ?_
        refine LS.vv rfl rfl (by decide) (Val.assign rfl) ?_
        refine LS.nil ?_
        refine inBlk_normal ?_
        refine thenP_normal ?_
        have hks2 : ∀ a ∈ ks ++ [ka], ∃ v, vf L q (2 ^ m) a = some v := fun a ha => by { rcases List.mem_append.1 ha with h | h; exact hks a h; rw [List.mem_singleton] at h; subst h; exact ⟨_, hkv⟩ }
        have hkl2 := ks_le hm (show q < 16 by omega) hit1.nodup hks2
        rw [List.length_append, List.length_cons, List.length_nil] at hkl2
        refine ⟨ks ++ [ka], ?_, ?_, ⟨⟨hmr1, hit1, hks2⟩, hB⟩, by simp only [List.length_append, List.length_cons, List.length_nil]; omega⟩
        · exact Sub.cons' rfl (by rw [hyap]; first | (rw [if_pos (show cs (gb L) q ka (2 ^ m) = true by assumption)]; done) | (rw [if_neg (show ¬ cs (gb L) q ka (2 ^ m) = true by rw [Bool.not_eq_true]; assumption)]; rfl)) (Sub.nil _)
        · repeat (first | exact Sub.nil _ | refine Sub.cons rfl ?_)
      ·
        refine W.skip ?_
        refine inBlk_normal ?_
        refine thenP_normal ?_
        have hks2 : ∀ a ∈ ks ++ [ka], ∃ v, vf L q (2 ^ m) a = some v := fun a ha => by { rcases List.mem_append.1 ha with h | h; exact hks a h; rw [List.mem_singleton] at h; subst h; exact ⟨_, hkv⟩ }
        have hkl2 := ks_le hm (show q < 16 by omega) hit1.nodup hks2
        rw [List.length_append, List.length_cons, List.length_nil] at hkl2
        refine ⟨ks ++ [ka], ?_, ?_, ⟨⟨hmr1, hit1, hks2⟩, hB⟩, by simp only [List.length_append, List.length_cons, List.length_nil]; omega⟩
        · exact Sub.cons' rfl (by rw [hyap]; first | (rw [if_pos (show cs (gb L) q ka (2 ^ m) = true by assumption)]; done) | (rw [if_neg (show ¬ cs (gb L) q ka (2 ^ m) = true by rw [Bool.not_eq_true]; assumption)]; rfl)) (Sub.nil _)
        · repeat (first | exact Sub.nil _ | refine Sub.cons rfl ?_)
    ·
      refine W.exit ?_
      refine thenP_exit ?_
      refine thenP_exit ?_
      refine inBlk_exit ?_
      refine thenP_normal ?_
      refine W.seqR ?_
      refine LS.vv rfl rfl (by decide) (Val.move rfl) ?_
      first | refine LS.vv rfl rfl (by decide) (Val.mulN (i := 2) rfl rfl (by omega)) ?_ | refine LS.vv rfl rfl (by decide) (Val.mul64 rfl rfl (by omega)) ?_
      refine LS.vv rfl rfl (by decide) (Val.move rfl) ?_
      obtain ⟨hcov, hit2⟩ := hfin (by assumption)
      have hksm : ∀ a, a ∈ ks ↔ (vf L q (2 ^ m) a).isSome = true := fun a => ⟨fun h => by obtain ⟨v, hv⟩ := hks a h; rw [hv]; rfl, fun h => by obtain ⟨v, hv⟩ := Option.isSome_iff_exists.1 h; exact hcov a v hv⟩
      obtain ⟨hy1, hy2⟩ := yes_all hm hq hit2.nodup hksm
      rw [hy1]
      refine LS.m rfl (Step.mapLen rfl rfl (by decide) Try.underlying67 rfl KL hmr1 hksm hit2.nodup ?_)
      refine LS.vv rfl rfl (by decide) (Val.gtr rfl rfl) ?_
      refine LS.vv rfl rfl (by decide) (Val.assign rfl) ?_
      refine LS.nil ?_
      refine W.ret ?_
      refine ret1 (by first | exact .inl rfl | exact .inr rfl) rfl ?_
      refine ⟨congrArg Value.bool ?_, hB⟩
      rw [decide_eq_decide, hy2]
      omega

end Go.Proofs.Ytjmpkmomlpgbdaa
