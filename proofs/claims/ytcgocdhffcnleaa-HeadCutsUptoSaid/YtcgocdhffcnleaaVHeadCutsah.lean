/- Parts of the proof of the law's row, put together: see the theorems' own lines. -/
import Derived.Test.YtcgocdhffcnleaaVHeadCutsad
import Derived.Sort.Grow
/- Below, with the count of draws: what a function that only makes memory and draws leaves (for the contract that the sorts ask of a comparer). -/
set_option linter.unusedVariables false
namespace Go.Proofs.Ytcgocdhffcnleaa.XBd
open Go Go.RowKit Go.Sort Go.Proofs.YtcgocdhffcnleaaW.PrintWords
/-- What w had is there in W, and no draw is undone. -/
structure BD (w W : World) : Prop where
  b : Below w.heap.size w W
  n : w.drawn ≤ W.drawn
theorem BD.refl (w : World) : BD w w := ⟨Below.refl _ _, Nat.le_refl _⟩
theorem BD.cell {w W : World} (h : BD w W) {p : Addr} (hp : p.block < w.heap.size) : W.cell? p = w.cell? p := h.b.cell hp
theorem bd_drew1 {w W : World} (h : BD w W) : BD w W.drew := ⟨h.b.drew, Nat.le_succ_of_le h.n⟩
theorem bd_drewN {w W : World} (h : BD w W) (n : Nat) : BD w (W.drewN n) := ⟨pw_below_drewN h.b n, Nat.le_trans h.n (Nat.le_add_right _ _)⟩
theorem bd_alloc {w W : World} (h : BD w W) (o : Obj) : BD w (W.alloc o) := ⟨below_alloc h.b o, h.n⟩
theorem bd_step {w W W2 : World} (h : BD w W) (k : BD W W2) : BD w W2 := ⟨below_step h.b k.b, Nat.le_trans h.n k.n⟩
theorem bd_size {w W : World} (h : BD w W) : w.heap.size ≤ W.heap.size := h.b.size
theorem BD.grow {w W : World} (h : BD w W) : ∃ q os', W = Sort.grow (w.drewN q) os' := by
  refine ⟨W.drawn - w.drawn, W.heap.extract w.heap.size W.heap.size, ?_⟩
  have hh : w.heap ++ W.heap.extract w.heap.size W.heap.size = W.heap := by
    apply Array.ext_getElem?
    intro k
    have hs := h.b.size
    by_cases hk : k < w.heap.size
    · rw [Array.getElem?_append_left hk]
      exact (h.b.block k hk).symm
    · rw [Array.getElem?_append_right (by omega), Array.getElem?_extract]
      by_cases hk2 : k < W.heap.size
      · rw [if_pos (by omega)]
        congr 1
        omega
      · rw [if_neg (by omega), Array.getElem?_eq_none (by omega)]
  obtain ⟨heap, tape, drawn, os, output⟩ := W
  obtain ⟨heap0, tape0, drawn0, os0, output0⟩ := w
  have h1 : os = os0 := h.b.os
  have h2 : tape = tape0 := h.b.tape
  have h3 : output = output0 := h.b.output
  have h4 : drawn0 ≤ drawn := h.n
  subst h1 h2 h3
  simp only at hh
  show World.mk heap _ drawn _ _ = World.mk (heap0 ++ heap.extract heap0.size heap.size) _ (drawn0 + (drawn - drawn0)) _ _
  rw [hh, show drawn0 + (drawn - drawn0) = drawn by omega]
  rfl
section
variable {P : Program} {ops : Array Oper} {o : Oper} {a : Act} {Q : Exit → Act → World → Prop} {Kc : Act → World → Prop} {α : Type}
/-- A literal of elements in a region that draws its order. -/
theorem R_lit_stepD (d : Kd α) {w0 W : World} (base e : Nat) (hw : Region.wanted o (yielded ops a.tmps) = true) {N : Tmp} (_hd : o.dst = some N) {xs : List α} {inner : List Value} {ok okp : Nat → Prop}
    (hrun : (execOp a.eval o).run P W = .ok (.value (.slice (some ⟨W.heap.size, 0, none⟩) xs.length xs.length)) (W.alloc (.cells inner.toArray e)))
    (hrep : Reps (d.M W base okp) d.sz xs inner) (hok : ∀ k, okp k → ok k) (hfresh : ok W.heap.size) (HB : BD w0 W) (hbase : base ≤ W.heap.size) (hm : xs.length ≤ 9223372036854775807)
    (h : ∀ v1 w1, d.R e w1 base ok v1 xs → BD w0 w1 → W.grownBy w1 none → (∃ b, v1.ownBlock = some b ∧ W.heap.size ≤ b) → Kc (a.put o.dst v1) w1) : if Region.wanted o (yielded ops a.tmps) = true then Oper.wp P o a W Kc Q else Kc (a.put o.dst undef) W := by
  refine event_step hw hrun (h _ _ ⟨fun k hk => ?_, inner, ?_, ?_⟩ (bd_alloc HB _) (World.grownBy_alloc W _ none) ⟨W.heap.size, by simp [Value.ownBlock], Nat.le_refl _⟩)
  · have : W.heap.size = k := by simpa [Value.ownBlock] using hk
    subst this
    exact hfresh
  · have h2 := World.ownsRow_lit (base := base) (e := e) (size := d.sz) W inner.toArray xs.length hbase (by simpa [maxLen] using hm) (by simpa using hrep.1)
    simpa using h2
  · refine hrep.imp_ (fun p c hp => d.M_mono (fun k hk => ⟨hok k hk.1, fun he => ?_⟩) (Kd.M_below (d.M_bound hp) (below_alloc (Below.refl _ _) _)))
    have h3 : k = W.heap.size := by simpa [Value.ownBlock] using he
    have := hk.2.2.1
    omega
end
end Go.Proofs.Ytcgocdhffcnleaa.XBd
