/- A range over a function whose rounds all end at their bodies' ends: the statement, and one round, with the loop's record named. -/
import Derived.RangeFuncOwn
import Derived.RangeFuncNested
import Derived.Maps.OwnIn
import Derived.Test.YtjilnpbgclnecabXHand
set_option linter.unusedVariables false
set_option linter.unusedSimpArgs false
namespace Go.Proofs.Ytjilnpbgclnecab.XH
open Go Go.RowKit
variable {F : Fence} {n : Nat} {P : Program}
theorem wpIn_range_rec {g : Operand} {ps : Array Tmp} {assign body : Code} {Q : Exit → Act → World → Prop} {a : Act} {w : World}
    (hro : F.round = none) (h1 : 1 ≤ n) {gf : Nat} {lb : Array Value} (hg : a.eval g = .func (.func gf) #[] lb) (hFg : F.fn gf) (eg : ∀ args w, (callFunc gf args).run P w = .ok (.enter gf args) w)
    (I : World → Prop)
    (H : ∀ (fn : FuncId) (rec : LoopState → Option Code → Loop), F.fn fn → (rec = fun st pe => { state := st, pending := pe, fn, tmps := a.tmps, params := ps, assign, body, defers := w.heap.size }) →
      CallsIn F (n - 1) P gf (#[.func (.yield (w.heap.size + 1)) #[] #[]] ++ lb) ((w.alloc (.deferred (some []))).alloc (.loop (rec .ready none))) fun e W2 => (∃ v, e = .returned v) ∧ I W2 ∧ W2.heap[w.heap.size + 1]? = some (.loop (rec .ready none)))
    (hQ : ∀ (W2 : World) (o o' : Obj), I W2 → W2.heap[w.heap.size + 1]? = some o → Q .normal { a with defers := { target := .collected w.heap.size, args := #[] } :: a.defers } (W2.putObj (w.heap.size + 1) o')) :
    (Code.rangeFunc g ps assign body).wpIn F n P Q a w := by
  refine wpIn_rangeFunc ?_
  intro fn hfn
  rw [hro]
  obtain ⟨rec, hrec⟩ : ∃ rec : LoopState → Option Code → Loop, rec = fun st pe => { state := st, pending := pe, fn, tmps := a.tmps, params := ps, assign, body, defers := w.heap.size } := ⟨_, rfl⟩
  have hH := H fn rec hfn hrec
  obtain ⟨W1, hW1⟩ : ∃ W1, (w.alloc (.deferred (some []))).alloc (.loop (rec .ready none)) = W1 := ⟨_, rfl⟩
  rw [hW1] at hH
  refine ⟨w.heap.size + 1, [{ target := .collected w.heap.size, args := #[] }], W1, { target := .fn (.func gf) lb, args := #[.func (.yield (w.heap.size + 1)) #[] #[]] }, W1, gf,
    #[.func (.yield (w.heap.size + 1)) #[] #[]] ++ lb, W1, ?_, ?_, ?_, ?_, fun _ => h1, ?_⟩
  · rw [← hW1, hrec]; exact run_enterLoop_outer _ _ _ _ _
  · simp only [resolve, hg]
    simp [go_sem]
  · intro f' hf'; simp [Target.leads] at hf'; subst hf'; exact hFg
  · simp [invoke, go_sem, eg]
  · refine hH.mono ?_
    rintro e W2 ⟨⟨v, rfl⟩, hi, hl⟩
    exact ⟨none, _, by have := run_endLoop (P := P) hl (by rw [hrec]; simp); rw [hrec] at this; exact this, hQ _ _ _ hi hl⟩
theorem below_putObj {B l : Nat} {w W : World} (h : Below B w W) (hl : B ≤ l) (o : Obj) : Below B w (W.putObj l o) :=
  ⟨h.os, h.tape, h.output, by simpa using h.size, fun q hq => (World.putObj_heap_other (by omega)).trans (h.block q hq)⟩
theorem set2_keep {w : World} {g4 g5 k : Nat} {u4 u5 : Value} (h4 : k ≠ g4) (h5 : k ≠ g5) : ((w.setCell ⟨g4, 0, none⟩ u4).setCell ⟨g5, 0, none⟩ u5).heap[k]? = w.heap[k]? :=
  (Below.heap_setCell _ ⟨g5, 0, none⟩ u5 k h5).trans (Below.heap_setCell _ ⟨g4, 0, none⟩ u4 k h4)
/-- One round. -/
theorem yieldAt_rec {l : Nat} {r : Loop} {args : Array Value} {W : World} {R : Ending → World → Prop} (hfn : F.fn r.fn) (hl : W.heap[l]? = some (.loop r)) (hs : args.size = r.params.size)
    (h : r.assign.wpIn (F.inRound l) n P (Exit.then (fun a₁ w₁ => ∃ r1 : Loop, w₁.heap[l]? = some (.loop r1) ∧ r1.state = .ready ∧ r.body.wpIn (F.inRound l) n P (roundPost P l R) a₁ (w₁.putObj l (.loop { r1 with state := .busy }))) (fun _ _ _ => False))
      { tmps := (r.params.zip args).foldl (fun tmps (t, a) => tmps.setIfInBounds t a) r.tmps, defers := [] } W) : YieldAt F n P l args W R := by
  refine ⟨r.fn, _, r.assign, r.body, run_yield hl hs, roundIn_of_wpIn hfn (wpIn_mono h ?_)⟩
  intro e a w hq
  cases e with
  | normal =>
    obtain ⟨r1, h1, h2, h3⟩ := hq
    exact ⟨_, run_beginRound h1 h2, h3⟩
  | exit id => exact hq
  | goto t => exact hq
  | ret => exact hq
  | panic c => exact hq
  | outgrown => exact hq
section
open Go.Proofs.YtjilnpbgclnecabW.PrintWords
variable {ops : Array Oper} {rest : List Oper} {o : Oper} {a : Act} {Q : Exit → Act → World → Prop} {α : Type}
theorem R_keep {α : Type} {d : Kd α} {e base : Nat} {W W1 : World} {v : Value} {xs : List α} (h : d.R e W base (fun _ => True) v xs) (hk : ∀ (k : Nat) (cs : Array Value) (q : Nat), q ∈ e :: d.E → W.heap[k]? = some (.cells cs q (0, 0)) → W1.heap[k]? = some (.cells cs q (0, 0))) : d.R e W1 base (fun _ => True) v xs :=
  Kd.R_mono (Kd.R_move (Kd.R_bound h) (fun k hk' => by obtain ⟨_, _, _, q, hq, cells, hc⟩ := hk'; rw [hc]; exact hk k cells q hq hc)) (fun _ _ => trivial)
/-- append(v, x) in a fenced walk, behind 'gi_at_builtin'; the goal's world is 'W.alloc' of the variadic's box; the element's rows are of other types than the row. -/
theorem R_appendIn (d : Kd α) {w0 W : World} (base : Nat) (hgd : o.guard = none) (s x : Operand) (t e : TypeId) (z : Value) (bytes : Nat)
    (ho : o.op = .call { callee := .builtin .append, args := #[s, x], argTypes := #[t, t] })
    (ht : P.underlying t = some (.slice e)) (hinfo : (P.info? e).map (fun i => (i.zero, i.size, i.bytes)) = some (some z, d.sz, bytes)) (hz : z.cells.size = d.sz) (hs0 : 0 < d.sz) (hb0 : 0 < bytes)
    (v : Value) (xs : List α) (p : α) (cs : List Value) (hs : a.eval s = v) (hx : a.eval x = .slice (some ⟨W.heap.size, 0, none⟩) 1 1) (hp : d.M W base (fun _ => True) p cs) (hE : ∀ q, q ∈ d.E → e ≠ q)
    (HO : d.R e W base (fun _ => True) v xs) (HB : Below base w0 W) (hbase : base ≤ W.heap.size) (hl : (xs.length + 1) * bytes ≤ 140737488355328)
    (h : ∀ v1 w1, d.R e w1 base (fun _ => True) v1 (xs ++ [p]) → Below base w0 w1 → (∀ (k : Nat) (ob : Obj), W.heap[k]? = some ob → (∀ cs : Array Value, ob ≠ Obj.cells cs e (0, 0)) → w1.heap[k]? = some ob) → wpListIn F n P ops Q rest (a.put o.dst v1) w1) :
    wpListIn F n P ops Q (o :: rest) a (W.alloc (.cells cs.toArray e)) := by
  obtain ⟨h0, inner, hown, hr⟩ := HO
  obtain ⟨i0, hi, hzz⟩ := Option.map_eq_some_iff.1 hinfo
  simp only [Prod.mk.injEq] at hzz
  obtain ⟨hz0, hz1, hz2⟩ := hzz
  have hlen : xs.length + 1 ≤ 140737488355328 := Nat.le_trans (Nat.le_mul_of_pos_right _ hb0) hl
  have hys := d.K_len (d.K_of_M hp)
  have h1 := d.K_one (d.K_of_M hp)
  refine wpListIn_append_own_at (W.alloc (.cells cs.toArray e)) hgd s x t ho base e i0 z d.sz bytes ht hi hz0 hz1 hz2 hz hs0 v xs.length inner hs (hown.alloc _) ⟨W.heap.size, 0, none⟩ 1 1 cs hx (by rw [hys]; simp)
    (by simpa using World.news_of_block (cs := cs.toArray) (t := e) (fr := (0, 0)) (heap_alloc_new W (.cells cs.toArray e))) h1 (by simp only [maxLen]; omega) hl (by simp; omega) ?_
  intro v1 w1 hown1 hg1 _ hat
  have hg2 : W.grownBy w1 v.ownBlock := World.grownBy.trans (World.grownBy_alloc W _ _) hg1
  have hb1 : Below base w0 w1 := (HB.alloc hbase _).grown hg1 (by simp; omega) (own_base hown)
  have hat2 : v1.ownBlock = v.ownBlock ∨ ∃ b, v1.ownBlock = some b ∧ W.heap.size ≤ b := by
    rcases hat with hat | hat
    · exact .inl hat
    · exact .inr ⟨_, hat, by simp⟩
  have hM := d.M_bound hp
  have hfar : ∀ k, (True ∧ base ≤ k ∧ k < W.heap.size ∧ ∃ q, q ∈ d.E ∧ ∃ cells, W.heap[k]? = some (.cells cells q (0, 0))) → True ∧ some k ≠ v.ownBlock := by
    rintro k ⟨_, _, _, q, hq, cells, hc⟩
    exact ⟨trivial, own_ne hown hc (hE q hq)⟩
  refine h v1 w1 (Kd.R_appended (ok := fun _ => True) (fun _ _ => trivial) hr (d.M_mono hfar hM) (fun _ h => h) (fun _ _ => trivial) hown1 hg2 hat2) hb1 ?_
  intro k ob hk hne
  have hlt : k < W.heap.size := by
    rcases Nat.lt_or_ge k W.heap.size with h | h
    · exact h
    · rw [Array.getElem?_eq_none h] at hk; cases hk
  rw [hg2.block k hlt ?_]
  · exact hk
  · intro he
    obtain ⟨cells, hc⟩ := own_typed hown k he.symm
    rw [hk] at hc
    injection hc with hc
    exact hne _ hc
end
end Go.Proofs.Ytjilnpbgclnecab.XH
