/- Which series many lists of series make together is what the document's reference tells, whatever becomes of an answer that was told before (statement MergeSeries, the form with a bound on the bulk of the arguments); no condition. -/
import Derived.Test.YtjilnpbgclnecacPMergeSeriesx12
import Derived.Test.YtjilnpbgclnecacXPure
set_option linter.unusedVariables false
set_option linter.unusedSimpArgs false
namespace Go.Proofs.Ytjilnpbgclnecac.Pure
open Go Go.RowKit Go.Proofs.Ytjilnpbgclnecac.PMergeSeries Go.Proofs.Ytjilnpbgclnecac.XP Go.Proofs.YtjilnpbgclnecacW.PrintWords Go.Proofs.YtjilnpbgclnecacW.PrintLast Go.Proofs.YtjilnpbgclnecacW.PrintMore

/-! ### two rows of samples that are one -/
theorem rdS_nat {l : List S54} {i : Nat} (h : i < l.length) : rd_T54 l (i : Int) = l[i] := by
  unfold rd_T54
  rw [Int.toNat_natCast, List.getD_eq_getElem?_getD, List.getElem?_eq_getElem h]; rfl
theorem rdL_nat {l : List (List S54)} {i : Nat} (h : i < l.length) : rd_L2 l (i : Int) = l[i] := by
  unfold rd_L2
  rw [Int.toNat_natCast, List.getD_eq_getElem?_getD, List.getElem?_eq_getElem h]; rfl
theorem wiS {i n : Nat} (h : i < n) (hn : n ≤ 1152921504606846976) : wrap64 ((i : Int) + 1) = ((i + 1 : Nat) : Int) := by rw [w64 (by omega) (by omega)]; omega
theorem sams_l0 (a : List S54) (hn : a.length ≤ 1152921504606846976) : ∀ (d i : Nat), i + d = a.length → Ev (fun k => lysimeterref11_SameSamples.l0 k a a (i : Int)) true := by
  intro d
  induction d with
  | zero =>
    intro i hi
    refine Ev.step (f := fun _ => some true) (fun k => ?_) (Ev.now _)
    simp only [lysimeterref11_SameSamples.l0]
    rw [if_neg (by omega)]
  | succ d ih =>
    intro i hi
    have hlt : i < a.length := by omega
    refine Ev.step (f := fun k => lysimeterref11_SameSamples.l0 k a a ((i + 1 : Nat) : Int)) (fun k => ?_) (ih (i + 1) (by omega))
    simp only [lysimeterref11_SameSamples.l0]
    rw [if_pos (by omega), if_pos (by omega), if_pos (by omega), if_neg (by simp), wiS hlt hn]
theorem sams_self {a : List S54} (hn : a.length ≤ 1152921504606846976) : Ev (fun k => lysimeterref11_SameSamples.f k a a) true := by
  unfold lysimeterref11_SameSamples.f
  exact ev_if_pos rfl (sams_l0 a hn a.length 0 (by omega))
/-! ### many lists put together -/
theorem samples_ev {x : List (List S54)} (hx : x.length < 1099511627776) (hb : x.flatten.length < 1099511627776) : merge_Samples.f x = some (XMg.mrg merge_Samples.key x.flatten) := by
  unfold merge_Samples.f
  rw [if_pos ⟨hx, hb⟩]
theorem alive18_ev : lysimeterlaw18_alive.f = some true := by
  have hm : XMg.mrg merge_Samples.key [(⟨1, 1⟩ : S54), ⟨2, 2⟩, ⟨2, 3⟩] = [⟨1, 1⟩, ⟨2, 3⟩] := by simp [XMg.mrg, XMg.put, merge_Samples.key]
  unfold lysimeterlaw18_alive.f
  rw [samples_ev (by decide) (by decide), show ([[(⟨1, 1⟩ : S54), ⟨2, 2⟩], [⟨2, 3⟩]] : List (List S54)).flatten = [⟨1, 1⟩, ⟨2, 2⟩, ⟨2, 3⟩] from rfl, hm]
  rfl
theorem mrgS_len (l : List S54) : (XMg.mrg merge_Samples.key l).length ≤ l.length := XMg.mrg_len l
/-! ### labels and series that are one -/
theorem rdB_nat {l : List S63} {i : Nat} (h : i < l.length) : rd_T63 l (i : Int) = l[i] := by
  unfold rd_T63
  rw [Int.toNat_natCast, List.getD_eq_getElem?_getD, List.getElem?_eq_getElem h]; rfl
theorem rdR_nat {l : List S78} {i : Nat} (h : i < l.length) : rd_T78 l (i : Int) = l[i] := by
  unfold rd_T78
  rw [Int.toNat_natCast, List.getD_eq_getElem?_getD, List.getElem?_eq_getElem h]; rfl
theorem labs_l0 (a : List S63) (hn : a.length ≤ 1152921504606846976) : ∀ (d i : Nat), i + d = a.length → Ev (fun k => lysimeterref11_SameLabels.l0 k a a (i : Int)) true := by
  intro d
  induction d with
  | zero =>
    intro i hi
    refine Ev.step (f := fun _ => some true) (fun k => ?_) (Ev.now _)
    simp only [lysimeterref11_SameLabels.l0]
    rw [if_neg (by omega)]
  | succ d ih =>
    intro i hi
    have hlt : i < a.length := by omega
    refine Ev.step (f := fun k => lysimeterref11_SameLabels.l0 k a a ((i + 1 : Nat) : Int)) (fun k => ?_) (ih (i + 1) (by omega))
    simp only [lysimeterref11_SameLabels.l0]
    rw [if_pos (by omega), if_pos (by omega), if_pos (by omega), if_neg (by simp), wiS hlt hn]
theorem labs_self {a : List S63} (hn : a.length ≤ 1152921504606846976) : Ev (fun k => lysimeterref11_SameLabels.f k a a) true := by
  unfold lysimeterref11_SameLabels.f
  exact ev_if_pos rfl (labs_l0 a hn a.length 0 (by omega))
theorem sers_l0 (a : List S78) (hn : a.length ≤ 1152921504606846976) (hm : ∀ y ∈ a, y.f0.length ≤ 1152921504606846976 ∧ y.f1.length ≤ 1152921504606846976) : ∀ (d i : Nat), i + d = a.length → Ev (fun k => lysimeterref11_SameSeries.l0 k a a (i : Int)) true := by
  intro d
  induction d with
  | zero =>
    intro i hi
    refine Ev.step (f := fun _ => some true) (fun k => ?_) (Ev.now _)
    simp only [lysimeterref11_SameSeries.l0]
    rw [if_neg (by omega)]
  | succ d ih =>
    intro i hi
    have hlt : i < a.length := by omega
    have hb := hm a[i] (List.getElem_mem hlt)
    refine Ev.step (f := fun k => (lysimeterref11_SameLabels.f k a[i].f0 a[i].f0).bind fun t143 => (lysimeterref11_SameSamples.f k a[i].f1 a[i].f1).bind fun t146 => if t143 = true then (if t146 = true then lysimeterref11_SameSeries.l0 k a a ((i + 1 : Nat) : Int) else some false) else some false) (fun k => ?_) (Ev.bind (labs_self hb.1) (Ev.bind (sams_self hb.2) (ev_if_pos rfl (ev_if_pos rfl (ih (i + 1) (by omega))))))
    simp only [lysimeterref11_SameSeries.l0]
    rw [if_pos (by omega), if_pos (by omega), if_pos (by omega), rdR_nat hlt, wiS hlt hn]
theorem sers_self {a : List S78} (hn : a.length ≤ 1152921504606846976) (hm : ∀ y ∈ a, y.f0.length ≤ 1152921504606846976 ∧ y.f1.length ≤ 1152921504606846976) : Ev (fun k => lysimeterref11_SameSeries.f k a a) true := by
  unfold lysimeterref11_SameSeries.f
  exact ev_if_pos rfl (sers_l0 a hn hm a.length 0 (by omega))
/-! ### what is too much -/
theorem big11_l0 (l : List S63) (hl : l.length ≤ 140737488351232) (hs : ∀ y ∈ l, y.f0.size ≤ 140737488351232 ∧ y.f1.size ≤ 140737488351232) : ∀ (d i n : Nat), i + d = l.length → n ≤ 281474976706465 → ∃ b, Ev (fun k => lysimeterlaw11_Big.l0 k l (n : Int) (i : Int)) b := by
  intro d
  induction d with
  | zero =>
    intro i n hi hn
    refine ⟨decide ((n : Int) > 4000), Ev.step (f := fun _ => some (decide ((n : Int) > 4000))) (fun k => ?_) (Ev.now _)⟩
    rw [lysimeterlaw11_Big.l0, if_neg (by omega)]
  | succ d ih =>
    intro i n hi hn
    have hlt : i < l.length := by omega
    have hb := hs l[i] (List.getElem_mem hlt)
    by_cases h4 : n ≤ 4000
    · obtain ⟨b, h⟩ := ih (i + 1) (n + 1 + l[i].f0.size + l[i].f1.size) (by omega) (by omega)
      refine ⟨b, Ev.step (f := fun k => lysimeterlaw11_Big.l0 k l ((n + 1 + l[i].f0.size + l[i].f1.size : Nat) : Int) ((i + 1 : Nat) : Int)) (fun k => ?_) h⟩
      rw [lysimeterlaw11_Big.l0, if_pos (by omega), if_pos (by omega), if_pos (by omega), rdB_nat hlt, wiS hlt (by omega), w64 (x := (n : Int) + 1) (by omega) (by omega), w64 (x := (n : Int) + 1 + (l[i].f0.size : Int)) (by omega) (by omega), w64 (by omega) (by omega)]
      congr 1
    · refine ⟨decide ((n : Int) > 4000), Ev.step (f := fun _ => some (decide ((n : Int) > 4000))) (fun k => ?_) (Ev.now _)⟩
      rw [lysimeterlaw11_Big.l0, if_pos (by omega), if_neg (by omega)]
theorem big11_ev (l : List S63) (hl : l.length ≤ 140737488351232) (hs : ∀ y ∈ l, y.f0.size ≤ 140737488351232 ∧ y.f1.size ≤ 140737488351232) : ∃ b, Ev (fun k => lysimeterlaw11_Big.f k l) b := by
  unfold lysimeterlaw11_Big.f
  exact big11_l0 l hl hs l.length 0 0 (by omega) (by omega)
theorem big16_l0 (l : List S78) (hl : l.length ≤ 200) (hs : ∀ y ∈ l, (y.f0.length ≤ 140737488351232 ∧ ∀ z ∈ y.f0, z.f0.size ≤ 140737488351232 ∧ z.f1.size ≤ 140737488351232) ∧ y.f1.length ≤ 140737488351232) : ∀ (d i n : Nat), i + d = l.length → n ≤ 4000 → ∃ b, Ev (fun k => lysimeterlaw16_Big.l0 k l (n : Int) (i : Int)) b ∧ (b = false → ∀ y ∈ l.drop i, y.f0.length ≤ 2000 ∧ y.f1.length ≤ 4000) := by
  intro d
  induction d with
  | zero =>
    intro i n hi hn
    refine ⟨false, Ev.step (f := fun _ => some false) (fun k => ?_) (Ev.now _), fun _ y hy => ?_⟩
    · rw [lysimeterlaw16_Big.l0, if_neg (by omega)]
    · rw [List.drop_of_length_le (by omega)] at hy
      cases hy
  | succ d ih =>
    intro i n hi hn
    have hlt : i < l.length := by omega
    obtain ⟨⟨h0, h1⟩, h2⟩ := hs l[i] (List.getElem_mem hlt)
    obtain ⟨b, hb⟩ := big11_ev l[i].f0 h0 h1
    have hw : wrap64 ((wrap64 ((n : Int) + (l[i].f1.length : Int))) + (wrap64 (2 * (l[i].f0.length : Int)))) = ((n + l[i].f1.length + 2 * l[i].f0.length : Nat) : Int) := by
      rw [w64 (x := (n : Int) + _) (by omega) (by omega), w64 (x := 2 * _) (by omega) (by omega), w64 (by omega) (by omega)]
      omega
    have hstep : ∀ k, lysimeterlaw16_Big.l0 (k + 1) l (n : Int) (i : Int) = (lysimeterlaw11_Big.f k l[i].f0).bind fun t118 => if t118 = true then some true else if ((n + l[i].f1.length + 2 * l[i].f0.length : Nat) : Int) > 4000 then some true else lysimeterlaw16_Big.l0 k l ((n + l[i].f1.length + 2 * l[i].f0.length : Nat) : Int) ((i + 1 : Nat) : Int) := by
      intro k
      rw [lysimeterlaw16_Big.l0, if_pos (by omega), if_pos (by omega), rdR_nat hlt, hw, wiS hlt (by omega)]
    cases b with
    | true => exact ⟨true, Ev.step hstep (Ev.bind hb (ev_if_pos rfl (Ev.now _))), fun h => by cases h⟩
    | false =>
      by_cases h4 : n + l[i].f1.length + 2 * l[i].f0.length > 4000
      · exact ⟨true, Ev.step hstep (Ev.bind hb (ev_if_neg (by decide) (ev_if_pos (by omega) (Ev.now _)))), fun h => by cases h⟩
      · obtain ⟨b, h, hbf⟩ := ih (i + 1) (n + l[i].f1.length + 2 * l[i].f0.length) (by omega) (by omega)
        refine ⟨b, Ev.step hstep (Ev.bind hb (ev_if_neg (by decide) (ev_if_neg (by omega) h))), fun hf y hy => ?_⟩
        rw [List.drop_eq_getElem_cons hlt] at hy
        rcases List.mem_cons.1 hy with rfl | hy
        · omega
        · exact hbf hf y hy
theorem big16_ev (l : List S78) (hs : ∀ y ∈ l, (y.f0.length ≤ 140737488351232 ∧ ∀ z ∈ y.f0, z.f0.size ≤ 140737488351232 ∧ z.f1.size ≤ 140737488351232) ∧ y.f1.length ≤ 140737488351232) : ∃ b, Ev (fun k => lysimeterlaw16_Big.f k l) b ∧ (b = false → l.length ≤ 200 ∧ ∀ y ∈ l, y.f0.length ≤ 2000 ∧ y.f1.length ≤ 4000) := by
  unfold lysimeterlaw16_Big.f
  by_cases h : (l.length : Int) > 200
  · exact ⟨true, ev_if_pos h (Ev.now _), fun h => by cases h⟩
  · obtain ⟨b, hb, hbf⟩ := big16_l0 l (by omega) hs l.length 0 0 (by omega) (by omega)
    exact ⟨b, ev_if_neg h hb, fun hf => ⟨by omega, by have := hbf hf; rwa [List.drop_zero] at this⟩⟩
theorem ins_bound (B T : Nat) {x : List S63 × List S54} (hx : x.1.length ≤ B) : ∀ {out : List (List S63 × List S54)}, (∀ y ∈ out, y.1.length ≤ B ∧ y.2.length ≤ T) → (XSer.ins merge_Series.c merge_Samples.key out x).length ≤ out.length + 1 ∧ ∀ y ∈ XSer.ins merge_Series.c merge_Samples.key out x, y.1.length ≤ B ∧ y.2.length ≤ T + x.2.length
  | [], _ => by
    refine ⟨Nat.le_refl _, fun y hy => ?_⟩
    obtain rfl := List.mem_singleton.1 hy
    have := XMg.mrg_len (key := merge_Samples.key) x.2
    exact ⟨hx, by show (XMg.mrg merge_Samples.key x.2).length ≤ _; omega⟩
  | (a, s) :: out, h => by
    have ha : a.length ≤ B ∧ s.length ≤ T := h _ List.mem_cons_self
    have hr := ins_bound B T hx (fun y hy => h y (List.mem_cons_of_mem _ hy))
    unfold XSer.ins
    split
    · refine ⟨by simp only [List.length_cons]; have := hr.1; omega, fun y hy => ?_⟩
      rcases List.mem_cons.1 hy with rfl | hy
      · exact ⟨ha.1, by show s.length ≤ _; omega⟩
      · exact hr.2 y hy
    · split
      · refine ⟨by simp, fun y hy => ?_⟩
        rcases List.mem_cons.1 hy with rfl | hy
        · have := XMg.mrg_len (key := merge_Samples.key) (s ++ x.2)
          rw [List.length_append] at this
          exact ⟨ha.1, by show (XMg.mrg merge_Samples.key (s ++ x.2)).length ≤ _; omega⟩
        · have := h y (List.mem_cons_of_mem _ hy); exact ⟨this.1, by omega⟩
      · refine ⟨by simp, fun y hy => ?_⟩
        rcases List.mem_cons.1 hy with rfl | hy
        · have := XMg.mrg_len (key := merge_Samples.key) x.2
          exact ⟨hx, by show (XMg.mrg merge_Samples.key x.2).length ≤ _; omega⟩
        · have := h y hy; exact ⟨this.1, by omega⟩
theorem fold_bound (B : Nat) : ∀ (l out : List (List S63 × List S54)) (T : Nat), (∀ y ∈ out, y.1.length ≤ B ∧ y.2.length ≤ T) → (∀ y ∈ l, y.1.length ≤ B) →
    (l.foldl (fun out x => if x.2.isEmpty then out else XSer.ins merge_Series.c merge_Samples.key out x) out).length ≤ out.length + l.length ∧ ∀ y ∈ l.foldl (fun out x => if x.2.isEmpty then out else XSer.ins merge_Series.c merge_Samples.key out x) out, y.1.length ≤ B ∧ y.2.length ≤ T + (l.map fun x => x.2.length).sum
  | [], out, T, h, _ => ⟨Nat.le_refl _, fun y hy => by have := h y hy; simpa using this⟩
  | x :: l, out, T, h, hl => by
    rw [List.foldl_cons, List.map_cons, List.sum_cons, List.length_cons]
    by_cases he : x.2.isEmpty = true
    · rw [if_pos he]
      have := fold_bound B l out T h (fun y hy => hl y (List.mem_cons_of_mem _ hy))
      exact ⟨by omega, fun y hy => by have := this.2 y hy; exact ⟨this.1, by omega⟩⟩
    · rw [if_neg he]
      have hi := ins_bound B T (x := x) (hl x List.mem_cons_self) h
      have := fold_bound B l _ (T + x.2.length) hi.2 (fun y hy => hl y (List.mem_cons_of_mem _ hy))
      exact ⟨by have := hi.1; omega, fun y hy => by have := this.2 y hy; exact ⟨this.1, by omega⟩⟩
theorem ser_bound {all : List S78} {B : Nat} (hb : ∀ y ∈ all, y.f0.length ≤ B) : (merge_Series.ser all).length ≤ all.length ∧ ∀ y ∈ merge_Series.ser all, y.f0.length ≤ B ∧ y.f1.length ≤ rms.tot all := by
  have h := fold_bound B (all.map merge_Series.pr) [] 0 (fun y hy => nomatch hy) (fun y hy => by
    obtain ⟨z, hz, rfl⟩ := List.mem_map.1 hy
    exact hb z hz)
  unfold merge_Series.ser XSer.refser
  refine ⟨by rw [List.length_map]; have := h.1; rwa [List.length_nil, Nat.zero_add, List.length_map] at this, fun y hy => ?_⟩
  obtain ⟨z, hz, rfl⟩ := List.mem_map.1 hy
  have h2 := h.2 z hz
  refine ⟨h2.1, ?_⟩
  have e : ((all.map merge_Series.pr).map fun x => x.2.length).sum = rms.tot all := by
    rw [List.map_map]
    rfl
  have := h2.2
  rw [e] at this
  show z.2.length ≤ _
  omega
theorem wsum_ev (x : List S78) (hx : x.length ≤ 200) (hm : ∀ y ∈ x, y.f1.length ≤ 4000) : ∀ n : Nat, n ≤ 2000 + 4001 * (200 - x.length) → lysimeterlaw18_MergeSeries.wsum (n : Int) x = ((n + x.length + rms.tot x : Nat) : Int) := by
  induction x with
  | nil => intro n _; rfl
  | cons e x ih =>
    intro n hn
    have he := hm e List.mem_cons_self
    have hxl : x.length + 1 ≤ 200 := hx
    rw [List.length_cons] at hn
    have hw : wrap64 (wrap64 ((n : Int) + 1) + (e.f1.length : Int)) = ((n + 1 + e.f1.length : Nat) : Int) := by
      rw [w64 (x := (n : Int) + 1) (by omega) (by omega), w64 (by omega) (by omega)]
      omega
    show lysimeterlaw18_MergeSeries.wsum (wrap64 (wrap64 ((n : Int) + 1) + (e.f1.length : Int))) x = _
    rw [hw, ih (by omega) (fun y hy => hm y (List.mem_cons_of_mem _ hy)) (n + 1 + e.f1.length) (by omega)]
    have e1 : rms.tot (e :: x) = e.f1.length + rms.tot x := rfl
    rw [e1, List.length_cons]
    omega
theorem lp_ev : ∀ (l : List (List S78)) (n : Nat), n ≤ 2000 → (∀ x ∈ l, ∀ y ∈ x, (y.f0.length ≤ 140737488351232 ∧ ∀ z ∈ y.f0, z.f0.size ≤ 140737488351232 ∧ z.f1.size ≤ 140737488351232) ∧ y.f1.length ≤ 140737488351232) →
    ∃ b, Ev (fun k => lysimeterlaw18_MergeSeries.lp k l (n : Int)) b ∧ (b = false → n + l.flatten.length + rms.tot l.flatten ≤ 2000 ∧ ∀ y ∈ l.flatten, y.f0.length ≤ 2000)
  | [], n, hn, _ => ⟨false, Ev.now _, fun _ => ⟨by simpa [rms.tot] using hn, fun y hy => by cases hy⟩⟩
  | x :: l, n, hn, hm => by
    obtain ⟨b, hb, hbf⟩ := big16_ev x (hm x List.mem_cons_self)
    cases b with
    | true => exact ⟨true, Ev.bind hb (ev_if_pos rfl (Ev.now _)), fun h => by cases h⟩
    | false =>
      obtain ⟨h1, h2⟩ := hbf rfl
      have hw := wsum_ev x h1 (fun y hy => (h2 y hy).2) n (by omega)
      by_cases h4 : n + x.length + rms.tot x > 2000
      · refine ⟨true, Ev.bind hb (ev_if_neg (by decide) (ev_if_pos ?_ (Ev.now _))), fun h => by cases h⟩
        rw [hw]
        omega
      · obtain ⟨b, h, hf⟩ := lp_ev l (n + x.length + rms.tot x) (by omega) (fun z hz => hm z (List.mem_cons_of_mem _ hz))
        refine ⟨b, Ev.bind hb (ev_if_neg (by decide) (ev_if_neg ?_ ?_)), fun hbf2 => ?_⟩
        · rw [hw]
          omega
        · rw [hw]
          exact h
        · obtain ⟨h5, h6⟩ := hf hbf2
          rw [List.flatten_cons]
          refine ⟨by rw [List.length_append, rms.tot_append]; omega, fun y hy => ?_⟩
          rcases List.mem_append.1 hy with hy | hy
          · exact (h2 y hy).1
          · exact h6 y hy
theorem MergeSeries : lysimeterlaw18_MergeSeries.Pure := by
  intro l ⟨hl, hm⟩
  have hM : reachBytes = 140737488351232 := rfl
  rw [hM] at hl hm
  have hm2 : ∀ x ∈ l, ∀ y ∈ x, (y.f0.length ≤ 140737488351232 ∧ ∀ z ∈ y.f0, z.f0.size ≤ 140737488351232 ∧ z.f1.size ≤ 140737488351232) ∧ y.f1.length ≤ 140737488351232 := by
    intro x hx y hy
    obtain ⟨⟨h1, h2⟩, h3, _⟩ := (hm x hx).2 y hy
    exact ⟨⟨by omega, h2⟩, by omega⟩
  clear hm
  unfold lysimeterlaw18_MergeSeries.f
  have hln : l.length < 9223372036854775807 := by omega
  by_cases h20 : l.length > 20
  · exact ⟨0, by rw [if_pos ⟨alive18_ev, hln⟩, if_pos h20]⟩
  · obtain ⟨b, hb, hf⟩ := lp_ev l 0 (by omega) hm2
    cases b with
    | true =>
      obtain ⟨k, hk⟩ := hb.rounds
      refine ⟨k, ?_⟩
      have hk' : lysimeterlaw18_MergeSeries.lp k l 0 = some true := hk
      rw [if_pos ⟨alive18_ev, hln⟩, if_neg h20, hk', Option.bind_some, if_pos rfl]
    | false =>
      obtain ⟨h1, h2⟩ := hf rfl
      have hsb := ser_bound (all := l.flatten) (B := 2000) h2
      have hs := sers_self (a := merge_Series.ser l.flatten) (by have := hsb.1; omega) (fun y hy => by have := hsb.2 y hy; omega)
      have hfit : merge_Series.fits l := ⟨by omega, by omega, by show rms.tot l.flatten < _; omega, fun x hx => by have := h2 x hx; omega⟩
      obtain ⟨k, hk⟩ := (Ev.bind (f := fun k (b : Bool) => (lysimeterref11_SameSeries.f k (merge_Series.ser l.flatten) (merge_Series.ser l.flatten)).bind fun c => some (b, c)) hb (Ev.bind hs (Ev.now _))).rounds
      obtain ⟨b1, hb1, hk⟩ := Option.bind_eq_some_iff.1 hk
      obtain ⟨c1, hc1, hk⟩ := Option.bind_eq_some_iff.1 hk
      injection hk with hk
      injection hk with e1 e2
      subst e1 e2
      have hb1' : lysimeterlaw18_MergeSeries.lp k l 0 = some false := hb1
      exact ⟨k, by rw [if_pos ⟨alive18_ev, hln⟩, if_neg h20, hb1', Option.bind_some, if_neg (by decide), if_pos ⟨hfit, hc1⟩]⟩

end Go.Proofs.Ytjilnpbgclnecac.Pure
