/-
  points.Fix: what its walk leans on: contracts at lists of numbers, memory while the loop's record turns, the way out past the mark.
-/
import Derived.Test.YtnaebllojkodbaaEach3
import Derived.Test.YtnaebllojkodbaaVrange
namespace Go.Proofs.Ytnaebllojkodbaa
open Go Go.RowKit V
set_option linter.unusedVariables false
set_option linter.unusedSimpArgs false

theorem ci_toNat (x : List Nat) : (ci x).map Int.toNat = x := by
  induction x with
  | nil => rfl
  | cons a l ih => simp only [ci, List.map_cons, Int.toNat_natCast] at ih ⊢; rw [ih]
theorem gz_ci (x : List Nat) (k : Nat) : gz (ci x) k = (gn x k : Int) := by
  unfold gz gn ci
  rw [List.getD_eq_getElem?_getD, List.getD_eq_getElem?_getD, List.getElem?_map]
  cases x[k]? <;> rfl
theorem throughN (x ps : List Nat) (p q : Option Addr) (c d m n : Nat) (w0 : World) (hr1 : Rd w0 p (nv x)) (hr2 : Rd w0 q (nv ps)) (hm : x.length = m) (hn : ps.length = n) (hm9 : m ≤ 9) (hn9 : n ≤ 9) (hpm : ∀ j ∈ ps, j < m) (hnd : ps.Nodup) (hs : ∀ k, gn x k < 16) :
    CallsV Try.prog 38 #[.slice p m c, .slice q n d] w0 (fun v w => ∃ (p2 : Option Addr) (c2 : Nat), v = .slice p2 n c2 ∧ V.Own w w0.heap.size 3 p2 n c2 (nv (through x ps)) ∧ Below w0.heap.size w0 w) := by
  have h := through_any (ci x) ps p q c d m n w0 (by rw [← nv_ci]; exact hr1) hr2 (by rw [ci_len]; exact hm) hn hm9 hn9 hpm hnd (fun j _ => by rw [gz_ci]; omega) (fun k => by rw [gz_ci]; have := hs k; omega)
  rw [ci_toNat] at h
  exact h
theorem okF_ci {x : List Nat} (hs : Small x) : OkF (ci x) := fun z hz => by
  obtain ⟨y, hy, rfl⟩ := List.mem_map.1 hz
  have := hs y hy
  omega
theorem fcheckS (x : List Nat) (p : Option Addr) (c m : Nat) (w0 : World) (hr : Rd w0 p (nv x)) (hm : x.length = m) (hs : Small x) (hb : m ≤ 9) : CallsV Try.prog 31 #[.slice p m c] w0 (fun v w => v = .int .i64 ((0 : Nat) : Int) ∧ Below w0.heap.size w0 w) := by
  subst hm
  have h := fcheckN (ci x) p c x.length w0 (by rw [← nv_ci]; exact hr) (ci_len x) (by omega)
  refine CallsV.mono h ?_
  rintro v w ⟨e, rfl, he, _, hb⟩
  rw [he.2 (okF_ci hs)]
  exact ⟨rfl, hb⟩

/-! ### memory -/
theorem rd_put {w : World} {l : Nat} {o o' : Obj} {p : Option Addr} {xs : List Value} (h : Rd w p xs) (hl : w.heap[l]? = some o) (hc : o.isCells = false) : Rd (w.putObj l o') p xs := fun j u hj => by
  obtain ⟨b, off, e, hcell⟩ := h j u hj
  refine ⟨b, off, e, ?_⟩
  obtain ⟨o2, ho2, hc2⟩ := cells_of_cell hcell
  have hne : b ≠ l := fun e2 => by
    subst e2
    rw [hl] at ho2
    cases ho2
    rw [hc] at hc2
    cases hc2
  exact (World.cell?_of_block (World.putObj_heap_other hne)).trans hcell
theorem below_put {B : Nat} {w : World} {l : Nat} {o' : Obj} (hB : B ≤ l) : Below B w (w.putObj l o') :=
  ⟨rfl, rfl, rfl, by simp, fun k hk => World.putObj_heap_other (by omega)⟩
theorem below_put2 {B : Nat} {a w : World} {l : Nat} {o' : Obj} (h : Below B a w) (hB : B ≤ l) : Below B a (w.putObj l o') := h.trans (below_put hB)

/-! ### the way out -/
theorem results_cells2 {fn : Func} {t u : Nat} {ty tz : TypeId} (h : fn.results = #[.cell t ty, .cell u tz]) (tmps : Array Value) (P : Program) (w : World) : (results fn tmps).run P w =
    ((asAddr (tmps.getD t undef)).run P w).andThen fun a w1 => ((loadVar ty a).run P w1).andThen fun v w2 => ((asAddr (tmps.getD u undef)).run P w2).andThen fun b w3 => ((loadVar tz b).run P w3).andThen fun v2 w4 => .ok (.tuple #[v, v2]) w4 := by
  simp only [results, h]
  simp [Sem.run_bind, Result.andThen]
theorem run_loadVar {P : Program} {t : TypeId} {w : World} {g : Nat} {u : Value} (hf : Flat P t) (hr : Rd w (some ⟨g, 0, none⟩) [u]) : (loadVar t ⟨g, 0, none⟩).run P w = .ok u w := by
  have h := run_loadBox hf hr (P := P)
  simpa only [Instr.loadAt, Instr.sureAddr, Sem.run_bind, Sem.run_pure, Result.andThen_ok] using h
theorem leave_two {m : Nat} {P : Program} {fn : Func} {tmps : Array Value} {R : Value → World → Prop} {t u g1 g2 D : Nat} {ty tz : TypeId} {v1 v2 : Value} {w : World} (h : fn.results = #[.cell t ty, .cell u tz]) (hf1 : Flat P ty) (hf2 : Flat P tz)
    (ht : tmps.getD t undef = .pointer (some ⟨g1, 0, none⟩)) (hu : tmps.getD u undef = .pointer (some ⟨g2, 0, none⟩)) (hD : w.heap[D]? = some (.deferred (some []))) (h1 : Rd w (some ⟨g1, 0, none⟩) [v1]) (h2 : Rd w (some ⟨g2, 0, none⟩) [v2])
    (hR : R (.tuple #[v1, v2]) (w.putObj D (.deferred none))) : LeavesInM Fence.wide m P fn tmps (fun e w' => ∃ v, e = .returned v ∧ R v w') [{ target := .collected D, args := #[] }] .returning w := by
  have k1 : Rd (w.putObj D (.deferred none)) (some ⟨g1, 0, none⟩) [v1] := rd_put h1 hD rfl
  have k2 : Rd (w.putObj D (.deferred none)) (some ⟨g2, 0, none⟩) [v2] := rd_put h2 hD rfl
  refine ⟨by simp, .inl ⟨D, _, rfl, run_takeDeferred hD, ?_⟩⟩
  refine ⟨.tuple #[v1, v2], ?_, _, rfl, hR⟩
  rw [results_cells2 h, ht, hu]
  simp only [asAddr, Sem.run_pure, Result.andThen_ok, run_loadVar hf1 k1, run_loadVar hf2 k2]
theorem RW.block {m : Nat} {P : Program} {n : Nat} {c : Code} {Z : Exit → Act → World → Prop} {L : V.Loc} {w : World} {id : Nat} (h : RW m P n c (Exit.inBlock id Z) L w) : RW m P n (.block id c) Z L w := fun a ha => wpIn_block (h a ha)

/-! ### what is said between two rounds, and where a round has said 'no more' -/
def Fits (x : List Nat) (n k : Nat) (ps : List Nat) : Prop := 2 * offT (putp n (through x ps)) x n ≤ n - k
structure FJ (Wr : World) (rec : Loop) (x : List Nat) (n k : Nat) (pre : List (List Nat)) (w : World) : Prop where
  bel : Below Wr.heap.size Wr w
  loop : w.heap[Wr.heap.size + 1]? = some (.loop rec)
  dfr : w.heap[Wr.heap.size]? = some (.deferred (some []))
  no : ∀ ps ∈ pre, ¬ Fits x n k ps
structure FX (s0 : Nat) (Wr : World) (rec : Loop) (x : List Nat) (n k g1 g2 : Nat) (w : World) : Prop where
  bel : Below s0 Wr w
  loop : w.heap[Wr.heap.size + 1]? = some (.loop rec)
  dfr : w.heap[Wr.heap.size]? = some (.deferred (some []))
  out : ∃ (p : Option Addr) (c : Nat) (ps : List Nat), Rd w (some ⟨g1, 0, none⟩) [.slice p k c] ∧ Rd w (some ⟨g2, 0, none⟩) [.int .i64 ((0 : Nat) : Int)] ∧ Rd w p (nv (through x ps)) ∧ Ch n k ps ∧ Fits x n k ps
theorem FJ.jw {Wr : World} {rec : Loop} {x : List Nat} {n k : Nat} {w : World} (h : FJ Wr rec x n k [] w) (hs : w.heap.size = Wr.heap.size + 2) : JW Wr.heap.size (Wr.heap.size + 2) (FJ Wr rec x n k) [] w :=
  ⟨h, fun pre W W' hj hb => ⟨hj.bel.trans (hb.mono (by omega)), (hb.block _ (by omega)).trans hj.loop, (hb.block _ (by omega)).trans hj.dfr, hj.no⟩, by omega, fun pre W hj => ⟨_, hj.loop⟩⟩
theorem wpIn_of_WI {r : Option Nat} {ds : List Deferred} {m : Nat} {P : Program} {n : Nat} {c : Code} {Q : Post} {Z : Exit → Act → World → Prop} {L : V.Loc} {a : Act} {w : World} (hk : KnowD ds n L a) (h : WI r ds m P n c Q L w) (hz : ∀ e L a w, KnowD ds n L a → Q e L w → Z e a w) : c.wpIn (FR r) m P Z a w :=
  wpIn_mono (h a hk) fun e a' w' ⟨L', hk', q⟩ => hz e L' a' w' hk' q
theorem know30 {n : Nat} {L : V.Loc} {a : Act} (ha : Know n L a) {t : Nat} (ht : t < n) (v : Value) : KnowD [] n ((t, v) :: L) ⟨a.tmps.setIfInBounds t v, []⟩ := ⟨rfl, ⟨rfl, (ha.put ht v).size, (ha.put ht v).at_⟩⟩
/-- how a round ends -/
def RoundPost (s0 : Nat) (Wr : World) (x : List Nat) (n k g1 g2 : Nat) (ps : List Nat) (W2 : World) (e : Exit) (w : World) : Prop :=
  (e = .normal ∧ Below W2.heap.size W2 w ∧ ¬ Fits x n k ps) ∨
  (e = .ret ∧ Below s0 W2 w ∧ (∀ b, Wr.heap.size ≤ b → b < W2.heap.size → w.heap[b]? = W2.heap[b]?) ∧ ∃ (p : Option Addr) (c : Nat), Rd w (some ⟨g1, 0, none⟩) [.slice p k c] ∧ Rd w (some ⟨g2, 0, none⟩) [.int .i64 ((0 : Nat) : Int)] ∧ Rd w p (nv (through x ps)) ∧ Fits x n k ps)
theorem each1_round {Wr : World} {fn : FuncId} {tmps : Array Value} {assign body : Code} {gk gn n k s0 g1 g2 : Nat} {x : List Nat} (hs0 : s0 ≤ Wr.heap.size) (hrk : Rd Wr (some ⟨gk, 0, none⟩) [.int .i64 (k : Int)]) (hrn : Rd Wr (some ⟨gn, 0, none⟩) [.int .i64 (n : Int)]) (hn9 : n ≤ 9) (hk9 : k ≤ 9)
    (hR : ∀ (pre : List (List Nat)) (ps : List Nat) (p : Option Addr) (m c : Nat) (W : World), FJ Wr (recd fn tmps 30 assign body Wr.heap.size .ready none) x n k pre W → Wr.heap.size + 2 ≤ W.heap.size → Rd W p (nv ps) → ps.length = m → Ch n k ps →
      assign.wpIn (FR (some (Wr.heap.size + 1))) 0 Try.prog (Exit.then (fun a1 w1 => w1 = W ∧ body.wpIn (FR (some (Wr.heap.size + 1))) 0 Try.prog (fun e _ w2 => RoundPost s0 Wr x n k g1 g2 ps (W.putObj (Wr.heap.size + 1) (.loop (recd fn tmps 30 assign body Wr.heap.size .busy none))) e w2) a1
        (W.putObj (Wr.heap.size + 1) (.loop (recd fn tmps 30 assign body Wr.heap.size .busy none)))) (fun _ _ _ => False)) ⟨tmps.setIfInBounds 30 (.slice p m c), []⟩ W) :
    CallsV Try.prog 52 #[.func (.yield (Wr.heap.size + 1)) #[] #[], .pointer (some ⟨gk, 0, none⟩), .pointer (some ⟨gn, 0, none⟩)] (rangeW Wr fn tmps 30 assign body) (fun v w => (∃ ys, FJ Wr (recd fn tmps 30 assign body Wr.heap.size .ready none) x n k ys w ∧ Cov n k [] 0 ys) ∨ FX s0 Wr (recd fn tmps 30 assign body Wr.heap.size .done (some .ret)) x n k g1 g2 w) := by
  have hsz := rangeW_size Wr fn tmps 30 assign body
  have hJ0 : FJ Wr (recd fn tmps 30 assign body Wr.heap.size .ready none) x n k [] (rangeW Wr fn tmps 30 assign body) := ⟨rangeW_below .., rangeW_loop .., rangeW_def .., fun _ h => by cases h⟩
  have hjw := hJ0.jw hsz
  rw [← hsz] at hjw
  refine CallsV.mono (each1_any Wr.heap.size n k gk gn (FJ Wr (recd fn tmps 30 assign body Wr.heap.size .ready none) x n k) (FX s0 Wr (recd fn tmps 30 assign body Wr.heap.size .done (some .ret)) x n k g1 g2) _ (by omega) (fun pre W hJ => ⟨hrk.below hJ.bel, hrn.below hJ.bel⟩) ?_ hn9 hk9 hjw) ?_
  · intro pre ps p m c W hJ hWs hps hpm hC
    rw [hsz] at hWs
    refine yield_of_round hJ.loop (wpIn_mono (hR pre ps p m c W hJ hWs hps hpm hC) ?_)
    have hlt1 : Wr.heap.size + 1 < W.heap.size := by omega
    rintro e a1 w1 hq
    cases e with
    | normal =>
      obtain ⟨rfl, hq⟩ := hq
      refine ⟨rfl, wpIn_mono hq ?_⟩
      have hbl : Below Wr.heap.size w1 (w1.putObj (Wr.heap.size + 1) (.loop (recd fn tmps 30 assign body Wr.heap.size .busy none))) := below_put (by omega)
      have hloop : (w1.putObj (Wr.heap.size + 1) (.loop (recd fn tmps 30 assign body Wr.heap.size .busy none))).heap[Wr.heap.size + 1]? = some (.loop (recd fn tmps 30 assign body Wr.heap.size .busy none)) := World.putObj_heap_same hlt1
      have hoth : ∀ b, b ≠ Wr.heap.size + 1 → (w1.putObj (Wr.heap.size + 1) (.loop (recd fn tmps 30 assign body Wr.heap.size .busy none))).heap[b]? = w1.heap[b]? := fun b hb => World.putObj_heap_other hb
      have hs2 : (w1.putObj (Wr.heap.size + 1) (.loop (recd fn tmps 30 assign body Wr.heap.size .busy none))).heap.size = w1.heap.size := by simp
      generalize w1.putObj (Wr.heap.size + 1) (.loop (recd fn tmps 30 assign body Wr.heap.size .busy none)) = W2 at *
      rintro e2 a2 w2 (⟨rfl, hb, hno⟩ | ⟨rfl, hb, hkeep, p2, c2, r1, r2, r3, hfit⟩)
      · have hl2 := (hb.block (Wr.heap.size + 1) (by omega)).trans hloop
        have hlt2 : Wr.heap.size + 1 < w2.heap.size := (Array.getElem?_eq_some_iff.1 hl2).1
        refine ⟨hl2, .inl ⟨rfl, .inl ⟨rfl, ⟨?_, World.putObj_heap_same hlt2, ?_, ?_⟩, ⟨?_, ?_⟩, ?_⟩⟩⟩
        · exact below_put2 ((hJ.bel.trans hbl).trans (hb.mono (by omega))) (by omega)
        · exact (World.putObj_heap_other (by omega)).trans ((hb.block _ (by omega)).trans ((hoth _ (by omega)).trans hJ.dfr))
        · intro qs hq
          rcases List.mem_append.1 hq with h | h
          · exact hJ.no qs h
          · rw [List.mem_singleton.1 h]; exact hno
        · have := hb.size
          simp only [World.putObj_size]; omega
        · intro b hbl2 hne
          exact (World.putObj_heap_other hne).trans ((hb.block b (by omega)).trans (hoth b hne))
        · exact below_put2 (hbl.trans (hb.mono (by omega))) (by omega)
      · have hl2 := (hkeep (Wr.heap.size + 1) (by omega) (by omega)).trans hloop
        have hlt2 : Wr.heap.size + 1 < w2.heap.size := (Array.getElem?_eq_some_iff.1 hl2).1
        refine ⟨hl2, .inr ⟨rfl, .inr ⟨rfl, ⟨?_, World.putObj_heap_same hlt2, ?_, p2, c2, ps, rd_put r1 hl2 rfl, rd_put r2 hl2 rfl, rd_put r3 hl2 rfl, hC, hfit⟩, ?_⟩⟩⟩
        · exact below_put2 (((hJ.bel.trans hbl).mono hs0).trans hb) (by omega)
        · exact (World.putObj_heap_other (by omega)).trans ((hkeep _ (by omega) (by omega)).trans ((hoth _ (by omega)).trans hJ.dfr))
        · intro b h1 h2
          exact (World.putObj_heap_other (by omega)).trans ((hkeep b (by omega) (by omega)).trans (hoth b (by omega)))
    | exit i => exact hq
    | goto l => exact hq
    | ret => exact hq
    | panic c => exact hq
    | outgrown => exact hq
  · rintro v w (⟨ys, hJ, hC, _⟩ | hX)
    · exact .inl ⟨ys, hJ, hC⟩
    · exact .inr hX
end Go.Proofs.Ytnaebllojkodbaa
