/-
  The statement PrefixOnly: from the contract of the walk to the given row.
-/
import Derived.Test.YtbfcmfjdjldepaaPrefixL
import Derived.Test.YtbfcmfjdjldepaaVww
import Derived.Test.YtbfcmfjdjldepaaVlift
namespace Go.Proofs.Ytbfcmfjdjldepaa.lawPrefixOnly
open Go Go.RowKit Go.ChangeShapes Go.WideShapes Go.ChangeAt V
set_option linter.unusedVariables false

theorem own : ownKnob Try.prog.godebug = none := by kernel_rfl
theorem laidOut : laidOutB Try.prog = true := by kernel_rfl

theorem bulk_pos {H : Type} : ∀ d : DataW H, 1 ≤ Rows.uptoBulk d
  | .lit (.string _) => by unfold Rows.uptoBulk; omega
  | .lit (.bool _) => by unfold Rows.uptoBulk; omega
  | .lit (.int _ _) => by unfold Rows.uptoBulk; omega
  | .lit (.float _ _) => by unfold Rows.uptoBulk; omega
  | .lit .nil => by unfold Rows.uptoBulk; omega
  | .nil => by unfold Rows.uptoBulk; omega
  | .ptr _ => by unfold Rows.uptoBulk; omega
  | .slice _ _ => by unfold Rows.uptoBulk; omega
  | .agg _ => by unfold Rows.uptoBulk; omega
  | .iface _ _ => by unfold Rows.uptoBulk; omega
  | .map _ => by unfold Rows.uptoBulk; omega
  | .held _ => by unfold Rows.uptoBulk; omega
theorem bulk_len {H : Type} : ∀ l : List (DataW H), l.length ≤ Rows.uptoBulkAll l
  | [] => Nat.zero_le _
  | d :: r => by
    have h1 := bulk_pos d
    have h2 := bulk_len r
    unfold Rows.uptoBulkAll
    simp only [List.length_cons]
    omega
theorem bulk_mem {H : Type} {d : DataW H} : ∀ {l : List (DataW H)}, d ∈ l → Rows.uptoBulk d ≤ Rows.uptoBulkAll l
  | x :: r, h => by
    unfold Rows.uptoBulkAll
    rcases List.mem_cons.1 h with e | h
    · rw [e]; omega
    · have := bulk_mem h; omega
theorem arg_bulk {H : Type} {enc : TypeId × Value → H} {W : World} {t e : TypeId} {a : Option Addr} {len cap : Nat} {d : DataW H} {ds : List (DataW H)} {ps : List MemPlace} (hk : Rows.uptoSmall H ds = true) (hd : d ∈ ds) (ht : Try.prog.underlying t = some (.slice e))
    (h : DataW.Trod enc Try.prog W 0 (fun _ => true) true t (.slice a len cap) d ps) : cap ≤ 1048576 := by
  have h1 : Rows.uptoBulkAll ds ≤ 1048576 := of_decide_eq_true hk
  have h2 := bulk_mem hd
  rcases arg_cap ht h with ⟨h3, _⟩ | ⟨el, sp, h3, h4⟩
  · omega
  · subst h3
    have h5 := bulk_len el
    have h6 := bulk_len sp
    unfold Rows.uptoBulk at h2
    omega

theorem contract (H : Type) (enc : TypeId × Value → H) (W : World) (base : Nat) (args : Array Value) (ds gs : List (DataW H)) (before : List MemPlace)
    (hval : ∀ (j : Nat) t v, Try.f5.params[j]? = some t → args[j]? = some v → Value.okWide Try.prog W .any base t v)
    (hW : DataW.Whole enc Try.prog Try.f5.params.toList Rows.prefixOnlySpec.vars false W args.toList ds gs before) (hk : Rows.uptoSmall H (ds ++ gs) = true) :
    Calls Try.prog 5 args W fun e W' => ∃ v, e = .returned v ∧ Rows.prefixOnlySpec.post enc Try.prog Try.f5 false true false false W args v W' := by
  have hW' := hW
  obtain ⟨p, q, hA0, hV, rfl, hfz, hnd⟩ := hW
  have hA : DataW.TrodAll enc Try.prog W 0 (fun _ => true) true Try.f5.params.toList args.toList ds p := hA0
  rw [Try.params5] at hA hval
  obtain ⟨v0, vs0, d0, ds0, p0, q0, hargs, rfl, rfl, h0, r0⟩ := trodAll_cons hA
  obtain ⟨v1, vs1, d1, ds1, p1, q1, rfl, rfl, rfl, h1, r1⟩ := trodAll_cons r0
  obtain ⟨rfl, rfl, rfl⟩ := trodAll_nil r1
  obtain rfl : args = #[v0, v1] := by cases args; simp_all
  obtain ⟨rfl, rfl⟩ := trodVars_none hV
  skip
  obtain ⟨a0, len0, cap0, rfl⟩ := okWide_slice Try.underlying22 (hval 0 22 v0 rfl rfl)
  have k0 := h0
  have lt0 : ∀ x ∈ p0, x.block < W.heap.size := by obtain ⟨m, hm⟩ := k0; exact DataW.trod_lt m _ _ _ hm
  have bulk0 := arg_bulk hk (d := d0) (by simp) Try.underlying22 k0
  obtain ⟨z0, rfl, hl0, hm0, hr0⟩ := arg_grid Try.underlying22 Try.underlying36 Try.underlying4 (by kernel_rfl) (by kernel_rfl) h0
  obtain ⟨a1, len1, cap1, rfl⟩ := okWide_slice Try.underlying36 (hval 1 36 v1 rfl rfl)
  have k1 := h1
  have lt1 : ∀ x ∈ p1, x.block < W.heap.size := by obtain ⟨m, hm⟩ := k1; exact DataW.trod_lt m _ _ _ hm
  have bulk1 := arg_bulk hk (d := d1) (by simp) Try.underlying36 k1
  obtain ⟨z1, rfl, hl1, hm1, hr1⟩ := arg_bools Try.underlying36 Try.underlying4 (by kernel_rfl) h1
  clear hA0
  refine Calls.mono (prefixOnly_any z0 z1 _ _ cap0 cap1 W hr0 hr1 (by simp [maxLen] at hm0; omega) (by omega) (by omega) (by simp [maxLen] at hm1; omega)) fun e W' ⟨v, he, hv, bel⟩ => ?_
  subst he; subst hv
  exact ⟨_, rfl, _, _, _, [], _, [], hW', trodAll_mk1 (shut_bool Try.underlying4 _), (trodAll_cons_mk (Below.trod laidOut (by kernel_rfl) (of_decide_eq_true (by kernel_rfl)) k0 bel lt0) (trodAll_cons_mk (Below.trod laidOut (by kernel_rfl) (of_decide_eq_true (by kernel_rfl)) k1 bel lt1) trodAll_mk0)), rfl, bel.frame _, fun h => by cases h⟩

set_option maxRecDepth 100000 in
theorem lifted (os : Os) (started : os.Started) (H : Type) (enc : TypeId × Value → H) (F : Stop.Interp) :
    ReturnsInHanded {} Try.checked os 5 .any ((Rows.OpenSpec.upto Rows.prefixOnlySpec).pre6 enc Try.prog Try.f5 Rows.prefixOnlyUptoRow.domain false) (((Rows.OpenSpec.upto Rows.prefixOnlySpec).at F).post enc Try.prog Try.f5 false true false false) := by
  refine returnsInHanded_of_cond (C := Try.checked) (s := Rows.OpenSpec.upto Rows.prefixOnlySpec) (k := Rows.uptoSmall) rfl own started (by kernel_rfl) Try.func5
    (OpenSpec.witness (enc := enc) (C := Try.checked) (s := Rows.OpenSpec.upto Rows.prefixOnlySpec) (k := Rows.uptoSmall) rfl false ⟨#[], #[.slice none 0 0, .slice none 0 0], []⟩ 8 (by kernel_rfl) (by kernel_rfl) (by kernel_rfl)
      (x := ([.nil, .nil], [], [])) (by kernel_rfl) rfl (by kernel_rfl)) ?_
  intro W base args ds gs before hval hW _ hk _
  exact contract H enc W base args ds gs before hval hW hk

theorem over : Rows.prefixOnlyUptoRow.holds Try.pinned (Rows.OpenSpec.upto Rows.prefixOnlySpec) :=
  OpenClaim.holds_of_cond 5 Try.f5 rfl rfl rfl rfl rfl rfl rfl ⟨rfl, rfl, rfl, rfl, rfl⟩ rfl rfl rfl rfl rfl (by kernel_rfl) Try.func5 (by kernel_rfl)
    (of_decide_eq_true (by kernel_rfl)) (by unfold Func.isWrapper; first | (rw [if_pos (by decide +kernel)]; kernel_rfl) | (rw [if_neg (by decide +kernel)]; exact ⟨rfl, rfl⟩))
    (fun os started H enc _ F => lifted os started H enc F)

theorem proved : Rows.PrefixOnlyUptoSaid := over
end Go.Proofs.Ytbfcmfjdjldepaa.lawPrefixOnly
