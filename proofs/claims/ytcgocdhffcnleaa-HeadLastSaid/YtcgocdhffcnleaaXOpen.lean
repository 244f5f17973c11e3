/- Small lemmas of this seat's rows: a value of the row's data, told as a value of the kind that the walk reads (rows of rows, rows of structs, structs). -/
import Derived.Test.YtcgocdhffcnleaaXBase
import Derived.ChangeArms
import Derived.ChangeSlices
import Derived.OpenShut
namespace Go.Proofs.Ytcgocdhffcnleaa.XO
open Go Go.RowKit Go.Proofs.YtcgocdhffcnleaaW.PrintWords Go.Proofs.YtcgocdhffcnleaaW.PrintLast Go.Proofs.YtcgocdhffcnleaaW.PrintMore
theorem list_of_each {α : Type} {p : Nat → α → Prop} : ∀ (n : Nat), (∀ i, i < n → ∃ x, p i x) → ∃ l : List α, l.length = n ∧ ∀ i x, l[i]? = some x → p i x
  | 0, _ => ⟨[], rfl, fun i x h => by simp at h⟩
  | n + 1, h => by
    obtain ⟨l, hl, hp⟩ := list_of_each n (fun i hi => h i (by omega))
    obtain ⟨x, hx⟩ := h n (by omega)
    refine ⟨l ++ [x], by simp [hl], fun i y hy => ?_⟩
    by_cases hi : i < n
    · rw [List.getElem?_append_left (by omega)] at hy
      exact hp i y hy
    · rw [List.getElem?_append_right (by omega)] at hy
      have h0 : i - l.length = 0 := by
        have := (List.getElem?_eq_some_iff.1 hy).1
        simp only [List.length_singleton] at this
        omega
      rw [h0] at hy
      obtain rfl : x = y := by simpa using hy
      obtain rfl : i = n := by omega
      exact hx
/-- Cells that hold data of type t are told as kind d. -/
def Opn {α : Type} (P : Program) (W : World) (t : TypeId) (d : Kd α) (g : α → Prop) : Prop :=
  ∀ (H : Type) (enc : TypeId × Value → H) (fuel : Nat) (cs : List Value) (x : DataW H × List MemPlace), DataW.trod enc P W 0 (fun _ => true) true fuel t cs = some x → ∃ a, d.K W a cs ∧ g a
/-- The fields fs of a struct of n cells, from cell off on. -/
def OpnF {α : Type} (P : Program) (W : World) (fs : List Field) (off n : Nat) (d : Kd α) (g : α → Prop) : Prop :=
  ∀ (H : Type) (enc : TypeId × Value → H) (fuel : Nat) (cs : List Value) (xs : List (DataW H × List MemPlace)), cs.length = n → xs.length = fs.length →
    (∀ (i : Nat) (f : Field), fs[i]? = some f → DataW.trod enc P W 0 (fun _ => true) true fuel f.type ((cs.drop f.offset).take (P.cellsOf f.type)) = xs[i]?) → ∃ a, d.K W a (cs.drop off) ∧ g a
section
variable {P : Program} {W : World} {t e : TypeId} {α β : Type} {d : Kd α} {d2 : Kd β} {g : α → Prop} {g2 : β → Prop}
theorem opn_int {k : IntKind} (ht : P.underlying t = some (.int k)) : Opn P W t (Kd.int k) (fun n => (Lit.int k n).wf = true) := by
  intro H enc fuel cs x h
  obtain ⟨n, rfl, _, hw⟩ := DataW.trod_int ht h
  exact ⟨n, rfl, hw⟩
theorem opn_bool (ht : P.underlying t = some .bool) : Opn P W t Kd.bool (fun _ => True) := by
  intro H enc fuel cs x h
  obtain ⟨b, rfl, _⟩ := DataW.trod_bool ht h
  exact ⟨b, rfl, trivial⟩
theorem opn_string (ht : P.underlying t = some .string) : Opn P W t Kd.string (fun s => s.size ≤ maxLen) := by
  intro H enc fuel cs x h
  obtain ⟨s, rfl, _, hs⟩ := DataW.trod_string ht h
  exact ⟨s, rfl, hs⟩
theorem opn_slice {q : Nat} (ht : P.underlying t = some (.slice e)) (hc : P.cellsOf e = d.sz) (he : Opn P W e d g) : Opn P W t (Kd.slice q d) (fun l => l.length ≤ maxLen ∧ ∀ y ∈ l, g y) := by
  intro H enc fuel cs x h
  rcases DataW.trod_slice ht h with ⟨rfl, _⟩ | ⟨a, len, cap, elems, rest, n, _, rfl, _, _, hl, hm, hlen, hel, _, _⟩
  · exact ⟨[], ⟨none, 0, rfl, Nat.le_refl _, Kd.C_nil _ _⟩, Nat.zero_le _, fun y hy => by cases hy⟩
  · have each : ∀ i, i < len → ∃ x, g x ∧ ∃ c : List Value, c.length = d.sz ∧ d.K W x c ∧ ∀ (j : Nat) (u : Value), c[j]? = some u → W.cell? (a.add (i * d.sz + j)) = some u := by
      intro i hi
      have h1 := hel i hi
      rw [List.getElem?_eq_getElem (by omega), Option.bind_eq_some_iff] at h1
      obtain ⟨c, hc1, hc2⟩ := h1
      obtain ⟨x, hx, hg⟩ := he H enc n c _ hc2
      obtain ⟨_, hcl, hcell⟩ := World.cells?_some hc1
      refine ⟨x, hg, c, hcl.trans hc, hx, fun j u hu => ?_⟩
      have hj : j < c.length := (List.getElem?_eq_some_iff.1 hu).1
      have h2 := hcell j (by omega)
      rw [Addr.add_add, hc] at h2
      rw [h2, hu]
    obtain ⟨l, hll, hp⟩ := list_of_each len each
    subst hll
    refine ⟨l, ⟨some a, cap, rfl, hl, rfl, Nat.le_trans hl hm, fun _ => ⟨a, rfl, fun j p hj => ?_⟩⟩, Nat.le_trans hl hm, fun y hy => ?_⟩
    · obtain ⟨_, c, h1, h2, h3⟩ := hp j p hj
      exact ⟨c, h1, h2, h3⟩
    · obtain ⟨i, hi, rfl⟩ := List.getElem_of_mem hy
      exact (hp i _ (List.getElem?_eq_getElem hi)).1
theorem opnf_one {f : Field} {off n c : Nat} (hoff : f.offset = off) (hc : P.cellsOf f.type = c) (hn : off + c = n) (h : Opn P W f.type d g) : OpnF P W [f] off n d g := by
  intro H enc fuel cs xs hcs hx hall
  obtain ⟨y, rfl⟩ := List.length_eq_one_iff.1 hx
  have h1 := hall 0 f rfl
  rw [hoff, hc, List.take_of_length_le (by rw [List.length_drop]; omega)] at h1
  exact h H enc fuel _ y h1
theorem opnf_cons {f : Field} {fs : List Field} {off n c : Nat} (hoff : f.offset = off) (hc : P.cellsOf f.type = c) (h : Opn P W f.type d g) (h2 : OpnF P W fs (off + c) n d2 g2) : OpnF P W (f :: fs) off n (Kd.pair d d2) (fun p => g p.1 ∧ g2 p.2) := by
  intro H enc fuel cs xs hcs hx hall
  obtain ⟨y, ys, rfl⟩ : ∃ y ys, xs = y :: ys := by
    cases xs with
    | nil => simp at hx
    | cons y ys => exact ⟨y, ys, rfl⟩
  have h1 := hall 0 f rfl
  rw [hoff, hc] at h1
  obtain ⟨a, ha, hg⟩ := h H enc fuel _ y h1
  obtain ⟨b, hb, hg2⟩ := h2 H enc fuel cs ys hcs (by simpa using hx) (fun i f' hf' => hall (i + 1) f' hf')
  refine ⟨(a, b), ⟨(cs.drop off).take c, cs.drop (off + c), ?_, ha, hb⟩, hg, hg2⟩
  rw [← List.drop_drop, List.take_append_drop]
theorem opn_struct {fs : Array Field} {n : Nat} (ht : P.underlying t = some (.struct fs)) (hn : P.cellsOf t = n) (h : OpnF P W fs.toList 0 n d g) : Opn P W t d g := by
  intro H enc fuel cs x hx
  obtain ⟨xs, m, _, _, hl, hxl, hall⟩ := DataW.trod_struct ht hx
  have h1 := h H enc m cs xs (hl.trans hn) (by simpa using hxl) (fun i f hf => hall i f (by simpa using hf))
  simpa using h1
theorem opn_arr2 (ht : P.underlying t = some (.array 2 e)) (hn : P.cellsOf t = 2 * d.sz) (hc : P.cellsOf e = d.sz) (h : Opn P W e d g) : Opn P W t (Kd.pair d d) (fun p => g p.1 ∧ g p.2) := by
  intro H enc fuel cs x hx
  obtain ⟨xs, m, _, _, hl, hxl, hall⟩ := DataW.trod_array ht hx
  have h0 := hall 0 (by omega)
  have h1 := hall 1 (by omega)
  rw [hc, Nat.zero_mul, List.drop_zero, List.getElem?_eq_getElem (by omega)] at h0
  rw [hc, Nat.one_mul, List.getElem?_eq_getElem (by omega)] at h1
  obtain ⟨a, ha, hg⟩ := h H enc m _ _ h0
  obtain ⟨b, hb, hg2⟩ := h H enc m _ _ h1
  refine ⟨(a, b), ⟨cs.take d.sz, (cs.drop d.sz).take d.sz, ?_, ha, hb⟩, hg, hg2⟩
  rw [List.take_of_length_le (i := d.sz) (l := cs.drop d.sz) (by rw [List.length_drop]; omega), List.take_append_drop]
theorem opn_iso (f : β → α) (inv : α → β) (hi : ∀ a, f (inv a) = a) (h : Opn P W t d g) : Opn P W t (Kd.iso d f) (fun x => g (f x)) := by
  intro H enc fuel cs x hx
  obtain ⟨a, ha, hg⟩ := h H enc fuel cs x hx
  refine ⟨inv a, ?_, ?_⟩
  · show d.K W (f (inv a)) cs
    rw [hi]; exact ha
  · show g (f (inv a))
    rw [hi]; exact hg
end
end Go.Proofs.Ytcgocdhffcnleaa.XO
