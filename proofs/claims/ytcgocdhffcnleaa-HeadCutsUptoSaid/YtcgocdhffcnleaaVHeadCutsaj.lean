/- Parts of the proof of the law's row, put together: see the theorems' own lines. -/
import Derived.Shelf.SlSortFuncK.RowK2
import Derived.Shelf.SlSortFuncK.SWK
import Derived.Shelf.SlSortCmp.KitK
import Derived.Test.YtcgocdhffcnleaaVHeadCutsaa
import Derived.Test.YtcgocdhffcnleaaVHeadCutsab
/- A row of the call's own at elements of k cells, and the sort's row: the one told as the other. No program. -/
set_option linter.unusedVariables false
set_option linter.unusedSectionVars false
namespace Go.Proofs.Ytcgocdhffcnleaa.XSr
open Go Go.Proofs Go.Sort Go.RowKit Go.Proofs.YtcgocdhffcnleaaW.PrintWords
section
variable {α : Type} [Inhabited α] {enc : α → List Value} {k : Nat}
theorem flatMap_len (hk : ∀ x, (enc x).length = k) (l : List α) : (l.flatMap enc).length = l.length * k := by
  induction l with
  | nil => simp
  | cons x l ih => rw [List.flatMap_cons, List.length_append, hk, ih, List.length_cons, Nat.add_mul, Nat.one_mul, Nat.add_comm]
theorem flatMap_at (hk : ∀ x, (enc x).length = k) : ∀ (l : List α) (i c : Nat) (hi : i < l.length), c < k → (l.flatMap enc)[i * k + c]? = (enc l[i])[c]?
  | x :: l, 0, c, hi, hc => by
    rw [List.flatMap_cons, Nat.zero_mul, Nat.zero_add, List.getElem?_append_left (by rw [hk]; exact hc)]
    rfl
  | x :: l, i + 1, c, hi, hc => by
    have e : (i + 1) * k + c = k + (i * k + c) := by rw [Nat.add_mul, Nat.one_mul]; omega
    rw [List.flatMap_cons, e, List.getElem?_append_right (by rw [hk]; omega), hk, Nat.add_sub_cancel_left]
    exact flatMap_at hk l i c (by simpa using hi) hc
theorem flatK_list (hk : ∀ x, (enc x).length = k) (l : List α) : (flatK enc k l.toArray).toList = l.flatMap enc := by
  apply List.ext_getElem?
  intro t
  by_cases ht : t < l.length * k
  · have hk0 : 0 < k := by
      rcases Nat.eq_zero_or_pos k with rfl | h
      · simp at ht
      · exact h
    have hi : t / k < l.length := (Nat.div_lt_iff_lt_mul hk0).2 ht
    have hc : t % k < k := Nat.mod_lt _ hk0
    have et : t = t / k * k + t % k := by rw [Nat.mul_comm]; exact (Nat.div_add_mod t k).symm
    have h1 : (flatK enc k l.toArray)[t]! = (enc l.toArray[t / k]!)[t % k]! := get_flatK _ _ _ _ (by simpa using ht)
    have h2 : (flatK enc k l.toArray).toList[t]? = some (enc l.toArray[t / k]!)[t % k]! := by
      rw [Array.getElem?_toList, ← h1, getElem!_pos _ t (by simpa using ht), Array.getElem?_eq_getElem]
    rw [h2]
    have h3 := flatMap_at hk l (t / k) (t % k) hi hc
    rw [← et] at h3
    have h4 : l.toArray[t / k]! = l[t / k] := by rw [getElem!_pos _ (t / k) (by simpa using hi)]; simp
    have h5 : t % k < (enc l[t / k]).length := by rw [hk]; exact hc
    rw [h3, h4, getElem!_pos (enc l[t / k]) (t % k) h5, List.getElem?_eq_getElem h5]
  · rw [List.getElem?_eq_none (by simp; omega), List.getElem?_eq_none (by rw [flatMap_len hk]; omega)]
theorem holdsK_of_own {w : World} {base e n g cap : Nat} {l : List α} (hk : ∀ x, (enc x).length = k) (h : w.ownsRow base e k (.slice (some ⟨g, 0, none⟩) n cap) n (l.flatMap enc)) (hn : l.length = n) :
    HoldsK enc k w g 0 l.toArray := by
  rcases h.2 with ⟨hv, _⟩ | ⟨g', cap', cur, hv, hb, hh, h1, h2, h3, h4⟩
  · cases hv
  · injection hv with hv1 hv2 hv3
    obtain rfl : g = g' := by injection hv1 with hv1; injection hv1
    intro j hj
    rw [size_flatK] at hj
    have hj' : j < n * k := by simpa [hn] using hj
    refine ⟨?_, by simp [World.frozen?, hh]⟩
    have e1 : (cur.toList.take (n * k))[j]? = (flatK enc k l.toArray).toList[j]? := by rw [h4, flatK_list hk]
    rw [List.getElem?_take_of_lt hj', Array.getElem?_toList, Array.getElem?_toList] at e1
    simp only [World.cell?, hh, Nat.zero_add]
    simp only [Option.isSome_none, Bool.false_eq_true, if_false]
    rw [e1, getElem!_pos _ j (by simpa using hj), Array.getElem?_eq_getElem]
    rfl
theorem heap_sortedK {w : World} {g n : Nat} {os : Array Obj} {cur : Array Value} {e : TypeId} {fr : Nat × Nat} (d : Array α) (hb : w.heap[g]? = some (.cells cur e fr)) :
    (sortWorldK enc k w g 0 n d os).heap[g]? = some (.cells (putCells id 0 (flatK enc k d) cur) e fr) := by
  have hg : g < w.heap.size := (Array.getElem?_eq_some_iff.1 hb).1
  unfold sortWorldK
  rw [heap_grow_old _ _ (by rw [size_putRowK]; exact hg)]
  simp [putRowK, putRow, mapBlock, Sort.ahead, Array.getElem?_modify, hb, onCells]
theorem grownBy_sortedK {w : World} {g n : Nat} {os : Array Obj} (d : Array α) : w.grownBy (sortWorldK enc k w g 0 n d os) (some g) := by
  unfold sortWorldK
  refine ⟨rfl, rfl, rfl, by rw [size_grow, size_putRowK]; exact Nat.le_add_right _ _, fun j hj hne => ?_⟩
  rw [heap_grow_old _ _ (by rw [size_putRowK]; exact hj)]
  have : g ≠ j := fun e => hne (by rw [e])
  simp [putRowK, putRow, mapBlock, Sort.ahead, Array.getElem?_modify, this]
theorem take_putCellsK (hk : ∀ x, (enc x).length = k) (cur : Array Value) (l : List α) (h : l.length * k ≤ cur.size) : (putCells id 0 (flatK enc k l.toArray) cur).toList.take (l.length * k) = l.flatMap enc := by
  rw [← flatK_list hk]
  apply List.ext_getElem?
  intro j
  by_cases hj : j < l.length * k
  · rw [List.getElem?_take_of_lt hj, Array.getElem?_toList, Array.getElem?_toList]
    have hs : j < (flatK enc k l.toArray).size := by simpa using hj
    simp only [putCells, Array.getElem?_mapIdx]
    rw [Array.getElem?_eq_getElem (show j < cur.size by omega), Array.getElem?_eq_getElem hs]
    simp only [Option.map_some, Nat.zero_le, Nat.zero_add, hs, and_self, if_true, Nat.sub_zero, id]
    rw [getElem!_pos _ j hs]
  · rw [List.getElem?_take_eq_none (by omega), List.getElem?_eq_none (by simp; omega)]
/-- Behind the sort the same slice owns the sorted list. -/
theorem own_sortedK {w : World} {base e n g cap m : Nat} {os : Array Obj} {l l' : List α} (hk : ∀ x, (enc x).length = k) (h : w.ownsRow base e k (.slice (some ⟨g, 0, none⟩) n cap) n (l.flatMap enc)) (hn : l'.length = n) :
    (sortWorldK enc k w g 0 m l'.toArray os).ownsRow base e k (.slice (some ⟨g, 0, none⟩) n cap) n (l'.flatMap enc) := by
  rcases h.2 with ⟨hv, _⟩ | ⟨g', cap', cur, hv, hb, hh, h1, h2, h3, h4⟩
  · cases hv
  · injection hv with hv1 hv2 hv3
    obtain rfl : g = g' := by injection hv1 with hv1; injection hv1
    subst hv3
    refine ⟨by rw [flatMap_len hk, hn], .inr ⟨g, cap, _, rfl, hb, heap_sortedK _ hh, h1, h2, by simp [putCells, h3], ?_⟩⟩
    rw [← hn]
    exact take_putCellsK hk cur l' (by rw [h3, hn]; exact Nat.mul_le_mul_right _ h1)
theorem SWK.own {w W : World} {base e n g cap : Nat} {l l' : List α} (hk : ∀ x, (enc x).length = k) (h : w.ownsRow base e k (.slice (some ⟨g, 0, none⟩) n cap) n (l.flatMap enc)) (hn : l'.length = n) (hW : SWK enc k w g 0 l'.toArray W) :
    W.ownsRow base e k (.slice (some ⟨g, 0, none⟩) n cap) n (l'.flatMap enc) ∧ w.grownBy W (some g) := by
  obtain ⟨m, os, rfl⟩ := hW
  exact ⟨own_sortedK hk h hn, grownBy_sortedK _⟩
end
section
variable {β : Type} {d : Kd β} {enc : β → List Value} {e base : Nat} {w : World} {ok : Nat → Prop} {v : Value} {xs : List β}
theorem flatMap_drop {k : Nat} (hk : ∀ x, (enc x).length = k) : ∀ (l : List β) (i : Nat) (x : β), l[i]? = some x → ((l.flatMap enc).drop (i * k)).take k = enc x
  | y :: l, 0, x, h => by
    obtain rfl : y = x := by simpa using h
    rw [Nat.zero_mul, List.drop_zero, List.flatMap_cons, List.take_left' (hk y)]
  | y :: l, i + 1, x, h => by
    rw [List.flatMap_cons, Nat.add_mul, Nat.one_mul, Nat.add_comm, ← List.drop_drop, List.drop_left' (hk y)]
    exact flatMap_drop hk l i x (by simpa using h)
theorem reps_flat {R : β → List Value → Prop} {k : Nat} (hk : ∀ x, (enc x).length = k) (l : List β) (h : ∀ x, x ∈ l → R x (enc x)) : Reps R k l (l.flatMap enc) := by
  refine ⟨?_, fun j x hx => ?_⟩
  · induction l with
    | nil => simp
    | cons x l ih => rw [List.flatMap_cons, List.length_append, hk, ih (fun y hy => h y (List.mem_cons_of_mem _ hy)), List.length_cons, Nat.add_mul, Nat.one_mul, Nat.add_comm]
  · rw [flatMap_drop hk l j x hx]
    exact h x (List.mem_of_getElem? hx)
theorem flat_reps {R : β → List Value → Prop} {k : Nat} {l : List β} {cs : List Value} (hR : ∀ x c, R x c → c = enc x) (h : Reps R k l cs) : cs = l.flatMap enc := by
  induction l generalizing cs with
  | nil => have := h.1; simp at this; simp [this]
  | cons x l ih =>
    have h0 := h.2 0 x rfl
    rw [Nat.zero_mul, List.drop_zero] at h0
    have h1 : Reps R k l (cs.drop k) := by
      refine ⟨by rw [List.length_drop, h.1, List.length_cons, Nat.add_mul, Nat.one_mul, Nat.add_sub_cancel], fun j p hj => ?_⟩
      have := h.2 (j + 1) p (by simpa using hj)
      rw [List.drop_drop, Nat.add_comm k, ← Nat.succ_mul]
      exact this
    rw [List.flatMap_cons, ← ih h1, ← hR _ _ h0, List.take_append_drop]
theorem R_cells (hM : ∀ {w base ok x cs}, d.M w base ok x cs → cs = enc x) (h : d.R e w base ok v xs) : w.ownsRow base e d.sz v xs.length (xs.flatMap enc) := by
  obtain ⟨_, inner, ho, hr⟩ := h
  rw [← flat_reps (fun x c hx => hM hx) hr]
  exact ho
theorem cells_R (hk : ∀ x, (enc x).length = d.sz) (hM : ∀ w base ok x, d.M w base ok x (enc x)) (h : w.ownsRow base e d.sz v xs.length (xs.flatMap enc)) (ho : ∀ k, v.ownBlock = some k → ok k) : d.R e w base ok v xs :=
  ⟨ho, _, h, reps_flat hk xs (fun x _ => hM _ _ _ x)⟩
end
end Go.Proofs.Ytcgocdhffcnleaa.XSr
