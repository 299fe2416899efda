/-
  Package unique: key; what find leans on.
-/
import Derived.Test.YtbfcmfjdjldepaaPrefix3
import Derived.Test.YtbfcmfjdjldepaaUniquePlain
import Derived.Test.YtbfcmfjdjldepaaVmaps
import Derived.Test.YtbfcmfjdjldepaaVcutapp
namespace Go.Proofs.Ytbfcmfjdjldepaa
open Go Go.RowKit V
set_option linter.unusedVariables false
set_option linter.unusedSimpArgs false

def keyI (r : List Bool) : Nat → List Nat := iter (fun i l => if gb r i = true then l.set i 1 else l) (List.replicate r.length 0)
theorem keyB_app (a b : List Bool) : keyB (a ++ b) = keyB a ++ keyB b := by simp [keyB]
theorem keyI_eq (r : List Bool) : ∀ k, k ≤ r.length → keyI r k = keyB (r.take k) ++ List.replicate (r.length - k) 0
  | 0, _ => by simp [keyI, iter, keyB]
  | k + 1, h => by
    have ih := keyI_eq r k (by omega)
    have e1 : keyI r (k + 1) = if gb r k = true then (keyI r k).set k 1 else keyI r k := rfl
    have hl : (keyB (r.take k)).length = k := by rw [keyB, List.length_map, List.length_take]; omega
    rw [e1, ih, List.take_succ_eq_append_getElem (by omega), ← gb_lt (by omega), keyB_app, show r.length - k = (r.length - (k + 1)) + 1 by omega, List.replicate_succ]
    by_cases hb : gb r k = true
    · rw [if_pos hb, List.set_append_right _ _ (by omega), hl, Nat.sub_self, List.set_cons_zero]; simp [keyB, hb]
    · rw [if_neg hb]; simp [keyB, hb]
theorem keyI_all (r : List Bool) : keyI r r.length = keyB r := by rw [keyI_eq r _ (Nat.le_refl _), List.take_length, Nat.sub_self]; simp
theorem keyI_len (r : List Bool) : ∀ k, (keyI r k).length = r.length
  | 0 => by simp [keyI, iter]
  | k + 1 => by
    have e1 : keyI r (k + 1) = if gb r k = true then (keyI r k).set k 1 else keyI r k := rfl
    rw [e1]; split
    · rw [List.length_set, keyI_len r k]
    · exact keyI_len r k
theorem keyI_succ (r : List Bool) (k : Nat) : keyI r (k + 1) = if gb r k = true then (keyI r k).set k 1 else keyI r k := rfl

theorem key_any (r : List Bool) (p : Option Addr) (c m : Nat) (w0 : World) (hr : Rd w0 p (bv r)) (hm : r.length = m) (hmx : m ≤ 1000) :
    CallsV Try.prog 43 #[.slice p m c] w0 (fun v w => v = encS r ∧ Below w0.heap.size w0 w) := by
  refine enter1 Try.func43 rfl Try.ntmps43 (by simp) rfl ?_
  have hB := Below.refl w0.heap.size w0
  simp only [argLoc]
  have hM := Mem.nil w0 w0.heap.size
  subst hm
  refine W.seqR ?_
  refine LS.vv rfl rfl (by decide) (Val.assign rfl) ?_
  refine LS.nil ?_
  refine W.seqR ?_
  refine LS.vv rfl rfl (by decide) (Val.move rfl) ?_
  refine LS.vv rfl rfl (by decide) (Val.len Try.underlying36 rfl) ?_
  refine LS.m rfl (Step.make rfl rfl (by decide) Try.underlying66 elem5 rfl rfl rfl (by omega) (by omega) (Nat.le_refl _) ?_)
  rintro w1 hO1 hg1 hbl1
  replace hM := hM.add hB.size hbl1 hO1
  try simp only [yv_app1, yv_app, yv_set, yv_rep, yv_one, yv_cons, yv_take, yv_drop, List.nil_append] at hM
  replace hB := hB.trans (hbl1.mono hB.size)
  skip
  refine LS.vv rfl rfl (by decide) (Val.assign rfl) ?_
  refine LS.nil ?_
  refine W.seq ?_
  refine W.seqR ?_
  refine LS.vv rfl rfl (by decide) (Val.move rfl) ?_
  refine LS.vv rfl rfl (by decide) (Val.len Try.underlying36 rfl) ?_
  refine LS.vv rfl rfl (by decide) (Val.cast (v := .int .i64 ((0 : Nat) : Int)) (Val.move rfl) rfl) ?_
  refine LS.nil ?_
  refine W.block ?_
  refine W.loop (α := Nat) (fun k => [(11, .int .i64 (k : Int))]) [(3, _), (9, _), (10, _)] (fun k w => (k ≤ r.length) ∧ Mem w w0.heap.size [⟨5, some ⟨w0.heap.size, 0, none⟩, r.length, r.length, yv (keyI r k)⟩] ∧ Below w0.heap.size w0 w) (fun k => r.length - k) (0) (Sub.cons rfl (Sub.nil _)) (Sub.cons rfl (Sub.cons rfl (Sub.cons rfl (Sub.nil _)))) ?_ ?_
  · exact ⟨Nat.zero_le _, hM, hB⟩
  rintro k w2 ⟨hk, hM, hB⟩
  try simp only at hM
  simp only [List.cons_append, List.nil_append]
  have hks := keyI_succ r k
  have hkl := keyI_len r k
  refine W.seqR ?_
  refine LS.vv rfl rfl (by decide) (Val.lss rfl rfl) ?_
  refine LS.nil ?_
  refine W.seq ?_
  first | refine W.condD rfl (fun hc1 => ?_) (fun hc1 => ?_) | refine W.cond rfl (fun hc1 => ?_) (fun hc1 => ?_)
  ·
    refine W.skip ?_
    refine thenP_normal ?_
    refine W.seq ?_
    refine W.block ?_
    refine W.seqR ?_
    refine LS.vv rfl rfl (by decide) (Val.move rfl) ?_
    refine LS.vv rfl rfl (by decide) (Val.index1 Try.underlying36 elem4 rfl rfl (by omega) ((hr.below hB)) (bv_lt (by omega))) ?_
    refine LS.m rfl (Step.load rfl rfl (by decide) flat4 rfl ((hr.below hB)) (bv_at (by omega)) ?_)
    refine LS.vv rfl rfl (by decide) (Val.assign rfl) ?_
    refine LS.vv rfl rfl (by decide) (Val.assign rfl) ?_
    refine LS.nil ?_
    refine W.seqR ?_
    refine LS.vv rfl rfl (by decide) (Val.move rfl) ?_
    refine LS.nil ?_
    first | refine W.condD rfl (fun hc2 => ?_) (fun hc2 => ?_) | refine W.cond rfl (fun hc2 => ?_) (fun hc2 => ?_)
    ·
      refine W.reg ?_
      refine LS.vv rfl rfl (by decide) (Val.move rfl) ?_
      refine LS.vv rfl rfl (by decide) (Val.move rfl) ?_
      refine LS.vv rfl rfl (by decide) (Val.index1 Try.underlying66 elem5 rfl rfl (by omega) (hM.o0.rd) (yv_lt (by omega))) ?_
      refine LS.m rfl (Step.store (B := w0.heap.size) rfl rfl flat5 elem5 rfl rfl rfl (hM.o0) (by omega) hB.size ?_)
      rintro w3 hO3 hg3 hbl3 hsz3
      replace hM := hM.s0 hg3 hO3 inl_block
      try simp only [yv_app1, yv_app, yv_set, yv_rep, yv_one, yv_cons, yv_take, yv_drop, List.nil_append] at hM
      replace hB := hB.trans hbl3
      refine LS.nil ?_
      refine inBlk_normal ?_
      refine thenP_normal ?_
      refine W.reg ?_
      first | refine LS.vv rfl rfl (by decide) (Val.addN (j := 1) rfl rfl (by omega)) ?_ | refine LS.vv rfl rfl (by decide) (Val.add64 rfl rfl (by omega)) ?_
      refine LS.vv rfl rfl (by decide) (Val.move rfl) ?_
      refine LS.nil ?_
      refine thenP_normal ?_
      first
        | (rw [if_pos (by assumption)] at hks; rw [show (yv (keyI r k)).set k (Value.int IntKind.u8 1) = yv ((keyI r k).set k 1) from by simp [yv, List.map_set], ← hks] at hM; refine ⟨k + 1, (Sub.cons rfl (Sub.nil _)), (by repeat (first | exact Sub.nil _ | refine Sub.cons rfl ?_)), ⟨by omega, hM, hB⟩, by omega⟩; done)
        | (rw [if_neg (fun h9 => by have h8 := (by assumption : gb r k = false); rw [h8] at h9; cases h9)] at hks; rw [← hks] at hM; refine ⟨k + 1, (Sub.cons rfl (Sub.nil _)), (by repeat (first | exact Sub.nil _ | refine Sub.cons rfl ?_)), ⟨by omega, hM, hB⟩, by omega⟩)
    ·
      refine W.skip ?_
      refine inBlk_normal ?_
      refine thenP_normal ?_
      refine W.reg ?_
      first | refine LS.vv rfl rfl (by decide) (Val.addN (j := 1) rfl rfl (by omega)) ?_ | refine LS.vv rfl rfl (by decide) (Val.add64 rfl rfl (by omega)) ?_
      refine LS.vv rfl rfl (by decide) (Val.move rfl) ?_
      refine LS.nil ?_
      refine thenP_normal ?_
      first
        | (rw [if_pos (by assumption)] at hks; rw [show (yv (keyI r k)).set k (Value.int IntKind.u8 1) = yv ((keyI r k).set k 1) from by simp [yv, List.map_set], ← hks] at hM; refine ⟨k + 1, (Sub.cons rfl (Sub.nil _)), (by repeat (first | exact Sub.nil _ | refine Sub.cons rfl ?_)), ⟨by omega, hM, hB⟩, by omega⟩; done)
        | (rw [if_neg (fun h9 => by have h8 := (by assumption : gb r k = false); rw [h8] at h9; cases h9)] at hks; rw [← hks] at hM; refine ⟨k + 1, (Sub.cons rfl (Sub.nil _)), (by repeat (first | exact Sub.nil _ | refine Sub.cons rfl ?_)), ⟨by omega, hM, hB⟩, by omega⟩)
  ·
    refine W.exit ?_
    refine thenP_exit ?_
    refine thenP_exit ?_
    refine inBlk_exit ?_
    refine thenP_normal ?_
    refine W.seqR ?_
    refine LS.vv rfl rfl (by decide) (Val.move rfl) ?_
    obtain rfl : k = r.length := by omega
    rw [keyI_all] at hM
    refine LS.m rfl (Step.bytesStr (l := keyB r) rfl rfl (by decide) Try.underlying66 Try.underlying5 Try.underlying9 rfl hM.o0.rd (by rw [keyB, List.length_map]) ?_)
    refine LS.vv rfl rfl (by decide) (Val.assign rfl) ?_
    refine LS.nil ?_
    refine W.ret ?_
    refine ret1 (by first | exact .inl rfl | exact .inr rfl) rfl ?_
    exact ⟨rfl, hB⟩

theorem find1_any (p : Option Addr) (c m : Nat) (w0 : World) :
    CallsV Try.prog 42 #[.slice p m c] w0 (fun v w => v = .bool (decide (m = 0)) ∧ Below w0.heap.size w0 w) := by
  refine enter1 Try.func42 rfl Try.ntmps42 (by simp) rfl ?_
  have hB := Below.refl w0.heap.size w0
  simp only [argLoc]
  refine W.seqR ?_
  refine LS.vv rfl rfl (by decide) (Val.assign rfl) ?_
  refine LS.nil ?_
  refine W.seqR ?_
  refine LS.vv rfl rfl (by decide) (Val.move rfl) ?_
  refine LS.vv rfl rfl (by decide) (Val.len Try.underlying36 rfl) ?_
  refine LS.vv rfl rfl (by decide) (Val.eql rfl rfl) ?_
  refine LS.vv rfl rfl (by decide) (Val.assign rfl) ?_
  refine LS.nil ?_
  refine W.ret ?_
  refine ret1 (by first | exact .inl rfl | exact .inr rfl) rfl ?_
  refine ⟨congrArg Value.bool ?_, hB⟩; rw [decide_eq_decide]; omega

theorem MapR.drew {κ : Type} {enc : κ → Value} {w : World} {B m : Nat} {f : κ → Option Value} (h : MapR enc w B m f) : MapR enc w.drew B m f := ⟨h.own, h.births⟩
theorem MapR.base {κ : Type} {enc : κ → Value} {w : World} {B B' m : Nat} {f : κ → Option Value} (h : MapR enc w B m f) (hB : B' ≤ B) : MapR enc w B' m f := ⟨h.own.base hB, h.births⟩
theorem Mz.castQ {w : World} {B : Nat} {S : List Oz} {e : TypeId} {z m m' c : Nat} {p : Option Addr} {xs ys : List Value} (hM : Mz w B (⟨e, z, p, m, c, xs⟩ :: S)) (h1 : m = m') (h2 : xs = ys) : Mz w B (⟨e, z, p, m', c, ys⟩ :: S) := by subst h1; subst h2; exact hM
structure IL where
  p : Option Addr
  c : Nat
  l : List Nat
structure QS where
  rp : Option Addr
  rc : Nat
  r : List Bool
  A : IL
  B : IL
abbrev qc (s : QS) : List Value := [.slice s.rp s.r.length s.rc, .slice s.A.p s.A.l.length s.A.c, .slice s.B.p s.B.l.length s.B.c]
def qcs (F : List QS) : List Value := F.flatMap qc
theorem qcs_len (F : List QS) : (qcs F).length = F.length * 3 := by
  induction F with
  | nil => rfl
  | cons a F ih => simp [qcs, qc] at ih ⊢; omega
theorem qcs_app (F G : List QS) : qcs (F ++ G) = qcs F ++ qcs G := by simp [qcs]
theorem qcs_one (s : QS) : qcs [s] = qc s := by simp [qcs]
theorem qcs_cons (s : QS) (F : List QS) : qcs (s :: F) = qc s ++ qcs F := by simp [qcs]
theorem qcs_hd (s : QS) (F : List QS) : ((qcs (s :: F)).drop (0 * 3)).take 3 = qc s := by simp [qcs, qc]
def tpI (T : List IL) : List Oz := T.map fun x => ⟨3, 1, x.p, x.l.length, x.c, nv x.l⟩
theorem tpI_rd {w : World} {B : Nat} {S : List Oz} {T : List IL} {x : IL} (h : Mz w B S) (hx : x ∈ T) (hin : ∀ o ∈ tpI T, o ∈ S) : Rd w x.p (nv x.l) := (h.all _ (hin ⟨3, 1, x.p, x.l.length, x.c, nv x.l⟩ (List.mem_map.2 ⟨x, hx, rfl⟩))).rd
theorem cutF3 {w : World} {B e m c k : Nat} {p : Option Addr} {J : List Value} {F : List QS} (h : OwnZ w B e 3 p m c (J ++ qcs F)) (hJ : J.length = k * 3) : Rd w (cutZ p c k 3) (qcs F) := by
  have := h.rd.cutz (c := c) (l := k) (size := 3) (by rw [h.length]; exact Nat.mul_le_mul_right 3 h.le_cap)
  rwa [← hJ, List.drop_left] at this
theorem cut_one {g c k : Nat} (h : k + 1 < c) : cutZ (cutZ (some ⟨g, 0, none⟩) c k 3) (c - k) 1 3 = cutZ (some ⟨g, 0, none⟩) c (k + 1) 3 := by
  have e1 : cutZ (some ⟨g, 0, none⟩) c k 3 = some ⟨g, k * 3, none⟩ := by unfold cutZ; rw [if_neg (by omega)]; simp [Addr.add_lit]
  rw [e1]
  unfold cutZ
  rw [if_neg (by omega), if_neg (by omega)]
  simp [Addr.add_lit, Nat.add_mul]
structure QOk (C : List Wd) (w0 : World) (T : List IL) (N : Nat) (s : QS) : Prop where
  st : StOk (codeOf C) s.r s.A.l s.B.l
  rd : Rd w0 s.rp (bv s.r)
  cap : s.r.length ≤ s.rc
  r8 : s.r.length ≤ 8
  inA : s.A ∈ T
  inB : s.B ∈ T
  lA : s.A.l.length ≤ N
  lB : s.B.l.length ≤ N
theorem QOk.mono {C : List Wd} {w0 : World} {T T2 : List IL} {N N2 : Nat} {s : QS} (h : QOk C w0 T N s) (hT : ∀ x ∈ T, x ∈ T2) (hN : N ≤ N2) : QOk C w0 T2 N2 s := ⟨h.st, h.rd, h.cap, h.r8, hT _ h.inA, hT _ h.inB, Nat.le_trans h.lA hN, Nat.le_trans h.lB hN⟩
def QAll (C : List Wd) (w0 : World) (T : List IL) (N : Nat) (F : List QS) : Prop := ∀ s ∈ F, QOk C w0 T N s
theorem QAll.mono {C : List Wd} {w0 : World} {T T2 : List IL} {N N2 : Nat} {F : List QS} (h : QAll C w0 T N F) (hT : ∀ x ∈ T, x ∈ T2) (hN : N ≤ N2) : QAll C w0 T2 N2 F := fun s hs => (h s hs).mono hT hN
theorem QAll.add {C : List Wd} {w0 : World} {T : List IL} {N : Nat} {F : List QS} {s : QS} (h : QAll C w0 T N F) (hs : QOk C w0 T N s) : QAll C w0 T N (F ++ [s]) := fun q hq => by
  rcases List.mem_append.1 hq with h1 | h1
  · exact h q h1
  · rw [List.mem_singleton.1 h1]; exact hs
def rs (F : List QS) : List (List Bool) := F.map (·.r)
theorem rs_add (F : List QS) (s : QS) : rs (F ++ [s]) = rs F ++ [s.r] := by simp [rs]
theorem rs_len (F : List QS) : (rs F).length = F.length := by simp [rs]
/-- how often each was met -/
def cnf (cn : List Bool → Nat) : List Bool → Option Value := fun r => if cn r = 0 then none else some (.int .i64 (cn r : Int))
def cn1 (cn : List Bool → Nat) (r : List Bool) : List Bool → Nat := fun q => if q = r then cn r + 1 else cn q
theorem cnf_get (cn : List Bool → Nat) (r : List Bool) : (cnf cn r).getD (.int .i64 0) = .int .i64 (cn r : Int) := by
  unfold cnf
  split
  · rename_i h; rw [h]; rfl
  · rfl
theorem cnf_put (cn : List Bool → Nat) (r : List Bool) : upd (cnf cn) r (.int .i64 ((cn r + 1 : Nat) : Int)) = cnf (cn1 cn r) := by
  funext q; unfold upd cnf cn1
  by_cases e : q = r
  · rw [if_pos e, if_pos e, if_neg (by omega)]
  · rw [if_neg e, if_neg e]
theorem cnf_zero : (fun _ => none : List Bool → Option Value) = cnf (fun _ => 0) := by funext q; simp [cnf]
theorem cn1_same (cn : List Bool → Nat) (r : List Bool) : cn1 cn r r = cn r + 1 := by simp [cn1]
theorem cn1_le {cn : List Bool → Nat} {r : List Bool} {P : Nat} (h : ∀ q, cn q ≤ P) : ∀ q, cn1 cn r q ≤ P + 1 := fun q => by
  unfold cn1
  have h1 := h q; have h2 := h r
  split <;> omega
theorem cn1_in {cn : List Bool → Nat} {r : List Bool} {S : List (List Bool)} (h : ∀ q, q ∈ S ↔ 0 < cn q) (hr : r ∈ S) : ∀ q, q ∈ S ↔ 0 < cn1 cn r q := fun q => by
  unfold cn1
  by_cases e : q = r
  · rw [if_pos e, e]; exact ⟨fun _ => by omega, fun _ => hr⟩
  · rw [if_neg e]; exact h q
theorem cn1_new {cn : List Bool → Nat} {r : List Bool} {S : List (List Bool)} (h : ∀ q, q ∈ S ↔ 0 < cn q) : ∀ q, q ∈ S ++ [r] ↔ 0 < cn1 cn r q := fun q => by
  unfold cn1
  rw [List.mem_append, List.mem_singleton]
  by_cases e : q = r
  · rw [if_pos e, e]; exact ⟨fun _ => by omega, fun _ => .inr rfl⟩
  · rw [if_neg e]; exact ⟨fun h9 => (h q).1 (h9.resolve_right e), fun h9 => .inl ((h q).2 h9)⟩
/-- two lists are told where two texts are alike; none where no two are -/
def Found (C : Code) (a b : List Nat) : Prop := (a = [] ∧ b = [] ∧ UD C) ∨ (0 < a.length ∧ a ≠ b ∧ ¬ UD C)

end Go.Proofs.Ytbfcmfjdjldepaa
