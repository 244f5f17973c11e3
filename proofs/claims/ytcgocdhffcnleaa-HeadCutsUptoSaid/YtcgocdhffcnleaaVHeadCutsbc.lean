/- Parts of the proof of the law's row, put together: see the theorems' own lines. -/
import Derived.Test.YtcgocdhffcnleaaVHeadCutsbb
import Derived.SizedLaws
/- As XOpen's lemmas, with the form's own reach: how long a slice or a string of the row's data may be. -/
namespace Go.Proofs.Ytcgocdhffcnleaa.XO
open Go Go.RowKit Go.Proofs.YtcgocdhffcnleaaW.PrintWords Go.Proofs.YtcgocdhffcnleaaW.PrintLast Go.Proofs.YtcgocdhffcnleaaW.PrintMore
theorem reach_eq : reachBytes = 140737488351232 := rfl
theorem all_mem {H : Type} {P : Program} {e : TypeId} : ∀ {l : List (DataW H)} {d : DataW H}, d ∈ l → ∀ n ∈ d.weights P e, n ∈ DataW.weightsAll P e l
  | d' :: r, d, hd, n, hn => by
    simp only [DataW.weightsAll, List.mem_append]
    rcases List.mem_cons.1 hd with rfl | h
    · exact Or.inl hn
    · exact Or.inr (all_mem h n hn)
def Opw {α : Type} (P : Program) (W : World) (t : TypeId) (d : Kd α) (g : α → Prop) : Prop :=
  ∀ (H : Type) (enc : TypeId × Value → H) (fuel : Nat) (cs : List Value) (x : DataW H × List MemPlace), DataW.trod enc P W 0 (fun _ => true) true fuel t cs = some x → (∀ n ∈ DataW.weights P t x.1, n ≤ reachBytes) → ∃ a, d.K W a cs ∧ g a
def OpwF {α : Type} (P : Program) (W : World) (fs : List Field) (off n : Nat) (d : Kd α) (g : α → Prop) : Prop :=
  ∀ (H : Type) (enc : TypeId × Value → H) (fuel : Nat) (cs : List Value) (xs : List (DataW H × List MemPlace)), cs.length = n → xs.length = fs.length →
    (∀ (i : Nat) (f : Field), fs[i]? = some f → DataW.trod enc P W 0 (fun _ => true) true fuel f.type ((cs.drop f.offset).take (P.cellsOf f.type)) = xs[i]?) →
    (∀ n ∈ DataW.weightsEach P (fs.map (·.type)) (xs.map (·.1)), n ≤ reachBytes) → ∃ a, d.K W a (cs.drop off) ∧ g a
section
variable {P : Program} {W : World} {t e : TypeId} {α β : Type} {d : Kd α} {d2 : Kd β} {g : α → Prop} {g2 : β → Prop}
theorem opw_of (h : Opn P W t d g) : Opw P W t d g := fun H enc fuel cs x hx _ => h H enc fuel cs x hx
theorem opw_int {k : IntKind} (ht : P.underlying t = some (.int k)) : Opw P W t (Kd.int k) (fun n => (Lit.int k n).wf = true) := opw_of (opn_int ht)
theorem opw_string (ht : P.underlying t = some .string) : Opw P W t Kd.string (fun s => s.size ≤ reachBytes) := by
  intro H enc fuel cs x h hw
  obtain ⟨s, rfl, rfl, hs⟩ := DataW.trod_string ht h
  refine ⟨s, rfl, ?_⟩
  have := hw s.data.toList.length (by simp [DataW.weights])
  exact Nat.le_trans (Nat.le_of_eq (by rw [Array.length_toList]; rfl)) this
theorem opw_slice {q b : Nat} (ht : P.underlying t = some (.slice e)) (hc : P.cellsOf e = d.sz) (hb : P.bytesOf e = b) (he : Opw P W e d g) : Opw P W t (Kd.slice q d) (fun l => l.length * b ≤ reachBytes ∧ ∀ y ∈ l, g y) := by
  intro H enc fuel cs x h hw
  rcases DataW.trod_slice ht h with ⟨rfl, _⟩ | ⟨a, len, cap, elems, rest, n, _, rfl, rfl, _, hl, hm, hlen, hel, _, _⟩
  · exact ⟨[], ⟨none, 0, rfl, Nat.le_refl _, Kd.C_nil _ _⟩, by simp, fun y hy => by cases hy⟩
  · have hw1 : ∀ n ∈ (elems.length + rest.length) * P.bytesOf e :: (DataW.weightsAll P e (elems.map (·.1)) ++ DataW.weightsAll P e (rest.map (·.1))), n ≤ reachBytes := by
      intro n hn
      refine hw n ?_
      simp only [DataW.weights, ht, List.length_map]
      exact hn
    have each : ∀ i, i < len → ∃ x, g x ∧ ∃ c : List Value, c.length = d.sz ∧ d.K W x c ∧ ∀ (j : Nat) (u : Value), c[j]? = some u → W.cell? (a.add (i * d.sz + j)) = some u := by
      intro i hi
      have h1 := hel i hi
      rw [List.getElem?_eq_getElem (by omega), Option.bind_eq_some_iff] at h1
      obtain ⟨c, hc1, hc2⟩ := h1
      obtain ⟨x, hx, hg⟩ := he H enc n c _ hc2 (fun n hn => hw1 n (List.mem_cons_of_mem _ (List.mem_append_left _ (all_mem (List.mem_map_of_mem (List.getElem_mem _)) n hn))))
      obtain ⟨_, hcl, hcell⟩ := World.cells?_some hc1
      refine ⟨x, hg, c, hcl.trans hc, hx, fun j u hu => ?_⟩
      have hj : j < c.length := (List.getElem?_eq_some_iff.1 hu).1
      have h2 := hcell j (by omega)
      rw [Addr.add_add, hc] at h2
      rw [h2, hu]
    obtain ⟨l, hll, hp⟩ := list_of_each len each
    subst hll
    refine ⟨l, ⟨some a, cap, rfl, hl, rfl, Nat.le_trans hl hm, fun _ => ⟨a, rfl, fun j p hj => ?_⟩⟩, ?_, fun y hy => ?_⟩
    · obtain ⟨_, c, h1, h2, h3⟩ := hp j p hj
      exact ⟨c, h1, h2, h3⟩
    · have := hw1 _ List.mem_cons_self
      rw [hb, hlen] at this
      exact Nat.le_trans (Nat.mul_le_mul_right _ (Nat.le_add_right _ _)) this
    · obtain ⟨i, hi, rfl⟩ := List.getElem_of_mem hy
      exact (hp i _ (List.getElem?_eq_getElem hi)).1
theorem opwf_one {f : Field} {off n c : Nat} (hoff : f.offset = off) (hc : P.cellsOf f.type = c) (hn : off + c = n) (h : Opw P W f.type d g) : OpwF P W [f] off n d g := by
  intro H enc fuel cs xs hcs hx hall hw
  obtain ⟨y, rfl⟩ := List.length_eq_one_iff.1 hx
  have h1 := hall 0 f rfl
  rw [hoff, hc, List.take_of_length_le (by rw [List.length_drop]; omega)] at h1
  exact h H enc fuel _ y h1 (fun n hn => hw n (by simp only [List.map_cons, List.map_nil, DataW.weightsEach, List.mem_append]; exact .inl hn))
theorem opwf_cons {f : Field} {fs : List Field} {off n c : Nat} (hoff : f.offset = off) (hc : P.cellsOf f.type = c) (h : Opw P W f.type d g) (h2 : OpwF P W fs (off + c) n d2 g2) : OpwF P W (f :: fs) off n (Kd.pair d d2) (fun p => g p.1 ∧ g2 p.2) := by
  intro H enc fuel cs xs hcs hx hall hw
  obtain ⟨y, ys, rfl⟩ : ∃ y ys, xs = y :: ys := by
    cases xs with
    | nil => simp at hx
    | cons y ys => exact ⟨y, ys, rfl⟩
  have h1 := hall 0 f rfl
  rw [hoff, hc] at h1
  have hw' : ∀ n, n ∈ DataW.weights P f.type y.1 ∨ n ∈ DataW.weightsEach P (fs.map (·.type)) (ys.map (·.1)) → n ≤ reachBytes := fun n hn => hw n (by simp only [List.map_cons, DataW.weightsEach, List.mem_append]; exact hn)
  obtain ⟨a, ha, hg⟩ := h H enc fuel _ y h1 (fun n hn => hw' n (.inl hn))
  obtain ⟨b, hb, hg2⟩ := h2 H enc fuel cs ys hcs (by simpa using hx) (fun i f' hf' => hall (i + 1) f' hf') (fun n hn => hw' n (.inr hn))
  refine ⟨(a, b), ⟨(cs.drop off).take c, cs.drop (off + c), ?_, ha, hb⟩, hg, hg2⟩
  rw [← List.drop_drop, List.take_append_drop]
theorem opw_struct {fs : Array Field} {n : Nat} (ht : P.underlying t = some (.struct fs)) (hn : P.cellsOf t = n) (h : OpwF P W fs.toList 0 n d g) : Opw P W t d g := by
  intro H enc fuel cs x hx hw
  obtain ⟨xs, m, _, rfl, hl, hxl, hall⟩ := DataW.trod_struct ht hx
  have h1 := h H enc m cs xs (hl.trans hn) (by simpa using hxl) (fun i f hf => hall i f (by simpa using hf)) (fun n hn => hw n (by simp only [DataW.weights, ht]; exact hn))
  simpa using h1
theorem opw_iso (f : β → α) (inv : α → β) (hi : ∀ a, f (inv a) = a) (h : Opw P W t d g) : Opw P W t (Kd.iso d f) (fun x => g (f x)) := by
  intro H enc fuel cs x hx hw
  obtain ⟨a, ha, hg⟩ := h H enc fuel cs x hx hw
  refine ⟨inv a, ?_, ?_⟩
  · show d.K W (f (inv a)) cs
    rw [hi]; exact ha
  · show g (f (inv a))
    rw [hi]; exact hg
end
end Go.Proofs.Ytcgocdhffcnleaa.XO
