/- The samples of all that stand in a time, and all with one put in, are what the document's reference tells (statement MergeRange); no condition. -/
import Derived.Test.YtjilnpbgclnecacPMergeRangex6
import Derived.Test.YtjilnpbgclnecacXPure
set_option linter.unusedVariables false
set_option linter.unusedSimpArgs false
namespace Go.Proofs.Ytjilnpbgclnecac.Pure
open Go Go.RowKit Go.Proofs.Ytjilnpbgclnecac.PMergeRange Go.Proofs.Ytjilnpbgclnecac.XP Go.Proofs.YtjilnpbgclnecacW.PrintWords Go.Proofs.YtjilnpbgclnecacW.PrintLast Go.Proofs.YtjilnpbgclnecacW.PrintMore

/-! ### two rows of samples that are one -/
theorem rdS_nat {l : List S54} {i : Nat} (h : i < l.length) : rd_T54 l (i : Int) = l[i] := by
  unfold rd_T54
  rw [Int.toNat_natCast, List.getD_eq_getElem?_getD, List.getElem?_eq_getElem h]; rfl
theorem rdL_nat {l : List (List S54)} {i : Nat} (h : i < l.length) : rd_L2 l (i : Int) = l[i] := by
  unfold rd_L2
  rw [Int.toNat_natCast, List.getD_eq_getElem?_getD, List.getElem?_eq_getElem h]; rfl
theorem wiS {i n : Nat} (h : i < n) (hn : n ≤ 1152921504606846976) : wrap64 ((i : Int) + 1) = ((i + 1 : Nat) : Int) := by rw [w64 (by omega) (by omega)]; omega
theorem sams_l0 (a : List S54) (hn : a.length ≤ 1152921504606846976) : ∀ (d i : Nat), i + d = a.length → Ev (fun k => lysimeterref11_SameSamples.l0 k a a (i : Int)) true := by
  intro d
  induction d with
  | zero =>
    intro i hi
    refine Ev.step (f := fun _ => some true) (fun k => ?_) (Ev.now _)
    simp only [lysimeterref11_SameSamples.l0]
    rw [if_neg (by omega)]
  | succ d ih =>
    intro i hi
    have hlt : i < a.length := by omega
    refine Ev.step (f := fun k => lysimeterref11_SameSamples.l0 k a a ((i + 1 : Nat) : Int)) (fun k => ?_) (ih (i + 1) (by omega))
    simp only [lysimeterref11_SameSamples.l0]
    rw [if_pos (by omega), if_pos (by omega), if_pos (by omega), if_neg (by simp), wiS hlt hn]
theorem sams_self {a : List S54} (hn : a.length ≤ 1152921504606846976) : Ev (fun k => lysimeterref11_SameSamples.f k a a) true := by
  unfold lysimeterref11_SameSamples.f
  exact ev_if_pos rfl (sams_l0 a hn a.length 0 (by omega))
/-! ### a sample put in: the reference -/
theorem mkS (s : S54) : (⟨s.f0, s.f1⟩ : S54) = s := rfl
theorem putS_nil {s : S54} : XMg.put merge_Samples.key [] s = [s] := rfl
theorem putS_cons {x s : S54} {l : List S54} : XMg.put merge_Samples.key (x :: l) s = if s.f0 < x.f0 then s :: x :: l else if s.f0 = x.f0 then s :: l else x :: XMg.put merge_Samples.key l s := rfl
macro "lens" : tactic => `(tactic| ((try simp only [Int.toNat_natCast, List.length_append, List.length_take, List.length_drop, List.length_nil, List.length_cons, List.nil_append]); omega))
theorem putsamp_l0 (l : List S54) (s : S54) (hn : l.length < 4398046511104) : ∀ (d i : Nat), i + d = l.length → Ev (fun k => lysimeterref11_PutSample.l0 k l (i : Int) s.f0 s.f1) (l.take i ++ XMg.put merge_Samples.key (l.drop i) s) := by
  intro d
  induction d with
  | zero =>
    intro i hi
    have hj : Ev (fun k => lysimeterref11_PutSample.j1 k l (i : Int) s.f0 s.f1) (l.take i ++ [s]) := by
      refine Ev.step (f := fun _ => some (l.take i ++ [s])) (fun k => ?_) (Ev.now _)
      rw [lysimeterref11_PutSample.j1, if_pos (by lens), if_pos (by lens), Option.bind_some, if_pos (by lens), Option.bind_some, Option.bind_some, if_pos (by lens), Option.bind_some, if_neg (by lens), Option.bind_some, if_pos (by lens), Int.toNat_natCast, List.drop_of_length_le (by omega), List.append_nil, List.nil_append, mkS]
    rw [List.drop_of_length_le (by omega), putS_nil]
    refine Ev.step (f := fun k => lysimeterref11_PutSample.j1 k l (i : Int) s.f0 s.f1) (fun k => ?_) hj
    simp only [lysimeterref11_PutSample.l0]
    rw [if_neg (by omega)]
  | succ d ih =>
    intro i hi
    have hlt : i < l.length := by omega
    by_cases h1 : l[i].f0 < s.f0
    · refine Ev.step (f := fun k => lysimeterref11_PutSample.l0 k l ((i + 1 : Nat) : Int) s.f0 s.f1) (fun k => ?_) (ev_eq (ih (i + 1) (by omega)) ?_)
      · simp only [lysimeterref11_PutSample.l0]
        rw [if_pos (by omega), if_pos (by omega), rdS_nat hlt, if_pos h1, wiS hlt (by omega)]
      · rw [List.drop_eq_getElem_cons hlt, putS_cons, if_neg (by omega), if_neg (by omega), List.take_succ_eq_append_getElem hlt, List.append_assoc]
        rfl
    · have hj : Ev (fun k => lysimeterref11_PutSample.j1 k l (i : Int) s.f0 s.f1) (l.take i ++ XMg.put merge_Samples.key (l.drop i) s) := by
        rw [List.drop_eq_getElem_cons hlt, putS_cons]
        by_cases h2 : l[i].f0 = s.f0
        · rw [if_neg (by omega), if_pos h2.symm]
          refine Ev.step (f := fun _ => some (l.take i ++ s :: l.drop (i + 1))) (fun k => ?_) (Ev.now _)
          rw [lysimeterref11_PutSample.j1, if_pos (by lens), if_pos (by lens), Option.bind_some, if_pos (by lens), Option.bind_some, Option.bind_some, if_pos (by lens), Option.bind_some, if_pos (by lens), rdS_nat hlt, if_pos h2, wiS hlt (by omega), if_pos (by lens), if_pos (by lens), Option.bind_some, if_pos (by lens), Int.toNat_natCast, Int.toNat_natCast, List.nil_append, mkS, List.append_assoc]
          rfl
        · rw [if_pos (by omega)]
          refine Ev.step (f := fun _ => some (l.take i ++ s :: l[i] :: l.drop (i + 1))) (fun k => ?_) (Ev.now _)
          rw [lysimeterref11_PutSample.j1, if_pos (by lens), if_pos (by lens), Option.bind_some, if_pos (by lens), Option.bind_some, Option.bind_some, if_pos (by lens), Option.bind_some, if_pos (by lens), rdS_nat hlt, if_neg h2, Option.bind_some, if_pos (by lens), Int.toNat_natCast, List.nil_append, mkS, List.append_assoc, List.drop_eq_getElem_cons hlt]
          rfl
      refine Ev.step (f := fun k => lysimeterref11_PutSample.j1 k l (i : Int) s.f0 s.f1) (fun k => ?_) hj
      simp only [lysimeterref11_PutSample.l0]
      rw [if_pos (by omega), if_pos (by omega), rdS_nat hlt, if_neg h1]
theorem putsamp_ev {l : List S54} (s : S54) (hn : l.length < 4398046511104) : Ev (fun k => lysimeterref11_PutSample.f k l s.f0 s.f1) (XMg.put merge_Samples.key l s) := by
  unfold lysimeterref11_PutSample.f
  exact putsamp_l0 l s hn l.length 0 (by omega)
/-! ### many lists put together: the reference -/
theorem refmerge_l (x : List (List S54)) (hx : x.length ≤ 1152921504606846976) : ∀ (d i : Nat), i + d = x.length → ∀ acc : List S54, acc.length + ((x.drop i).flatten).length < 4398046511104 → Ev (fun k => lysimeterref16_Merge.l0 k x acc (i : Int)) (((x.drop i).flatten).foldl (XMg.put merge_Samples.key) acc) := by
  intro d
  induction d with
  | zero =>
    intro i hi acc hb
    rw [List.drop_of_length_le (by omega)]
    refine Ev.step (f := fun _ => some acc) (fun k => ?_) (Ev.now _)
    simp only [lysimeterref16_Merge.l0]
    rw [if_neg (by omega)]
  | succ d ih =>
    intro i hi acc hb
    have hlt : i < x.length := by omega
    rw [List.drop_eq_getElem_cons hlt, List.flatten_cons] at hb ⊢
    rw [List.length_append] at hb
    rw [List.foldl_append]
    have inner : ∀ (e j : Nat), j + e = x[i].length → ∀ acc : List S54, acc.length + e + ((x.drop (i + 1)).flatten).length < 4398046511104 → Ev (fun k => lysimeterref16_Merge.l1 k x acc (i : Int) (j : Int)) (((x.drop (i + 1)).flatten).foldl (XMg.put merge_Samples.key) ((x[i].drop j).foldl (XMg.put merge_Samples.key) acc)) := by
      intro e
      induction e with
      | zero =>
        intro j hj acc hb
        rw [List.drop_of_length_le (by omega)]
        refine Ev.step (f := fun k => lysimeterref16_Merge.l0 k x acc ((i + 1 : Nat) : Int)) (fun k => ?_) (ih (i + 1) (by omega) acc (by omega))
        simp only [lysimeterref16_Merge.l1]
        rw [if_pos (by omega), if_pos (by omega), rdL_nat hlt, if_neg (by omega), wiS hlt hx]
      | succ e ihe =>
        intro j hj acc hb
        have hjl : j < x[i].length := by omega
        rw [List.drop_eq_getElem_cons hjl, List.foldl_cons]
        have hput := putsamp_ev (l := acc) x[i][j] (by omega)
        have hpl := XMg.put_len (key := merge_Samples.key) acc x[i][j]
        refine Ev.step (f := fun k => (lysimeterref11_PutSample.f k acc x[i][j].f0 x[i][j].f1).bind fun t => lysimeterref16_Merge.l1 k x t (i : Int) ((j + 1 : Nat) : Int)) (fun k => ?_) (Ev.bind hput (ihe (j + 1) (by omega) _ (by omega)))
        simp only [lysimeterref16_Merge.l1]
        rw [if_pos (by omega), if_pos (by omega), rdL_nat hlt, if_pos (by omega), if_pos (by omega), rdS_nat hjl, wiS hjl (by omega)]
    refine Ev.step (f := fun k => lysimeterref16_Merge.l1 k x acc (i : Int) 0) (fun k => ?_) (inner x[i].length 0 (by omega) acc (by omega))
    simp only [lysimeterref16_Merge.l0]
    rw [if_pos (by omega)]
theorem refmerge_ev {x : List (List S54)} (hx : x.length ≤ 1152921504606846976) (hb : x.flatten.length < 4398046511104) : Ev (fun k => lysimeterref16_Merge.f k x) (XMg.mrg merge_Samples.key x.flatten) := by
  unfold lysimeterref16_Merge.f
  exact refmerge_l x hx x.length 0 (by omega) [] (by simpa using hb)
/-! ### many lists put together -/
theorem samples_ev {x : List (List S54)} (hx : x.length < 1099511627776) (hb : x.flatten.length < 1099511627776) : merge_Samples.f x = some (XMg.mrg merge_Samples.key x.flatten) := by
  unfold merge_Samples.f
  rw [if_pos ⟨hx, hb⟩]
theorem alive18_ev : lysimeterlaw18_alive.f = some true := by
  have hm : XMg.mrg merge_Samples.key [(⟨1, 1⟩ : S54), ⟨2, 2⟩, ⟨2, 3⟩] = [⟨1, 1⟩, ⟨2, 3⟩] := by simp [XMg.mrg, XMg.put, merge_Samples.key]
  unfold lysimeterlaw18_alive.f
  rw [samples_ev (by decide) (by decide), show ([[(⟨1, 1⟩ : S54), ⟨2, 2⟩], [⟨2, 3⟩]] : List (List S54)).flatten = [⟨1, 1⟩, ⟨2, 2⟩, ⟨2, 3⟩] from rfl, hm]
  rfl
theorem mrgS_len (l : List S54) : (XMg.mrg merge_Samples.key l).length ≤ l.length := XMg.mrg_len l
def rng (a1 a2 : Int) (l : List S54) : List S54 := l.filter fun x => decide (x.f0 ≥ a1) && decide (x.f0 < a2)
theorem rng_cons (a1 a2 : Int) (x : S54) (l : List S54) : rng a1 a2 (x :: l) = if x.f0 ≥ a1 then (if x.f0 < a2 then x :: rng a1 a2 l else rng a1 a2 l) else rng a1 a2 l := by
  unfold rng
  rw [List.filter_cons]
  by_cases h1 : x.f0 ≥ a1 <;> by_cases h2 : x.f0 < a2 <;> simp [h1, h2]
theorem mrange_l0 (l : List S54) (a1 a2 : Int) (hn : l.length ≤ 1000) : ∀ (d i : Nat), i + d = l.length → ∀ acc : List S54, acc.length ≤ i → Ev (fun k => merge_Range.l0 k a1 a2 acc l (l.length : Int) (i : Int)) (acc ++ rng a1 a2 (l.drop i)) := by
  intro d
  induction d with
  | zero =>
    intro i hi acc ha
    rw [List.drop_of_length_le (by omega), show rng a1 a2 [] = [] from rfl, List.append_nil]
    refine Ev.step (f := fun _ => some acc) (fun k => ?_) (Ev.now _)
    rw [merge_Range.l0, if_neg (by omega)]
  | succ d ih =>
    intro i hi acc ha
    have hlt : i < l.length := by omega
    rw [List.drop_eq_getElem_cons hlt, rng_cons]
    by_cases h1 : l[i].f0 ≥ a1
    · rw [if_pos h1]
      by_cases h2 : l[i].f0 < a2
      · rw [if_pos h2]
        refine Ev.step (f := fun k => merge_Range.l0 k a1 a2 (acc ++ [l[i]]) l (l.length : Int) ((i + 1 : Nat) : Int)) (fun k => ?_) (ev_eq (ih (i + 1) (by omega) (acc ++ [l[i]]) (by rw [List.length_append, List.length_singleton]; omega)) (by rw [List.append_assoc]; rfl))
        rw [merge_Range.l0, if_pos (by omega), if_pos (by omega), if_pos (by omega), rdS_nat hlt, if_pos h1, if_pos h2, if_pos (by omega), wiS hlt (by omega), mkS]
      · rw [if_neg h2]
        refine Ev.step (f := fun k => merge_Range.l0 k a1 a2 acc l (l.length : Int) ((i + 1 : Nat) : Int)) (fun k => ?_) (ih (i + 1) (by omega) _ (by omega))
        rw [merge_Range.l0, if_pos (by omega), if_pos (by omega), if_pos (by omega), rdS_nat hlt, if_pos h1, if_neg h2, wiS hlt (by omega)]
    · rw [if_neg h1]
      refine Ev.step (f := fun k => merge_Range.l0 k a1 a2 acc l (l.length : Int) ((i + 1 : Nat) : Int)) (fun k => ?_) (ih (i + 1) (by omega) _ (by omega))
      rw [merge_Range.l0, if_pos (by omega), if_pos (by omega), if_pos (by omega), rdS_nat hlt, if_neg h1, wiS hlt (by omega)]
theorem rrange_l0 (l : List S54) (a1 a2 : Int) (hn : l.length ≤ 1000) : ∀ (d i : Nat), i + d = l.length → ∀ acc : List S54, acc.length ≤ i → Ev (fun k => lysimeterref16_Range.l0 k l a1 a2 acc (i : Int)) (acc ++ rng a1 a2 (l.drop i)) := by
  intro d
  induction d with
  | zero =>
    intro i hi acc ha
    rw [List.drop_of_length_le (by omega), show rng a1 a2 [] = [] from rfl, List.append_nil]
    refine Ev.step (f := fun _ => some acc) (fun k => ?_) (Ev.now _)
    rw [lysimeterref16_Range.l0, if_neg (by omega)]
  | succ d ih =>
    intro i hi acc ha
    have hlt : i < l.length := by omega
    rw [List.drop_eq_getElem_cons hlt, rng_cons]
    by_cases h1 : l[i].f0 ≥ a1
    · rw [if_pos h1]
      by_cases h2 : l[i].f0 < a2
      · rw [if_pos h2]
        refine Ev.step (f := fun k => lysimeterref16_Range.l0 k l a1 a2 (acc ++ [l[i]]) ((i + 1 : Nat) : Int)) (fun k => ?_) (ev_eq (ih (i + 1) (by omega) (acc ++ [l[i]]) (by rw [List.length_append, List.length_singleton]; omega)) (by rw [List.append_assoc]; rfl))
        rw [lysimeterref16_Range.l0, if_pos (by omega), if_pos (by omega), rdS_nat hlt, if_pos h1, if_pos h2, if_pos (by omega), wiS hlt (by omega), mkS]
      · rw [if_neg h2]
        refine Ev.step (f := fun k => lysimeterref16_Range.l0 k l a1 a2 acc ((i + 1 : Nat) : Int)) (fun k => ?_) (ih (i + 1) (by omega) _ (by omega))
        rw [lysimeterref16_Range.l0, if_pos (by omega), if_pos (by omega), rdS_nat hlt, if_pos h1, if_neg h2, wiS hlt (by omega)]
    · rw [if_neg h1]
      refine Ev.step (f := fun k => lysimeterref16_Range.l0 k l a1 a2 acc ((i + 1 : Nat) : Int)) (fun k => ?_) (ih (i + 1) (by omega) _ (by omega))
      rw [lysimeterref16_Range.l0, if_pos (by omega), if_pos (by omega), rdS_nat hlt, if_neg h1, wiS hlt (by omega)]
theorem MergeRange : lysimeterlaw18_MergeRange.Pure := by
  intro l a1 a2 s0 s1 ⟨hl, _⟩ _ _ _ _
  rw [show reachBytes = 140737488351232 from rfl] at hl
  by_cases hb : l.length > 1000
  · refine ⟨0, ?_⟩
    unfold lysimeterlaw18_MergeRange.f
    rw [if_pos ⟨alive18_ev, by omega⟩, if_pos hb]
  · have hrl : (rng a1 a2 l).length ≤ l.length := List.length_filter_le _ _
    have hml := mrgS_len (l ++ [⟨s0, s1⟩])
    rw [List.length_append] at hml
    have hml2 : (XMg.mrg merge_Samples.key (l ++ [⟨s0, s1⟩])).length ≤ 1001 := by simp at hml; omega
    obtain ⟨K1, h1⟩ := mrange_l0 l a1 a2 (by omega) l.length 0 (by omega) [] (by simp)
    obtain ⟨K2, h2⟩ := rrange_l0 l a1 a2 (by omega) l.length 0 (by omega) [] (by simp)
    obtain ⟨K3, h3⟩ := refmerge_ev (x := [l, [⟨s0, s1⟩]]) (by simp) (by simp; omega)
    obtain ⟨K4, h4⟩ := sams_self (a := rng a1 a2 l) (by omega)
    obtain ⟨K5, h5⟩ := sams_self (a := XMg.mrg merge_Samples.key (l ++ [⟨s0, s1⟩])) (by omega)
    obtain ⟨K6, h6⟩ := sams_self (a := l) (by omega)
    rw [show ([l, [⟨s0, s1⟩]] : List (List S54)).flatten = l ++ [⟨s0, s1⟩] from by simp] at h3
    obtain ⟨K, k1, k2, k3, k4, k5, k6⟩ : ∃ K, K1 ≤ K ∧ K2 ≤ K ∧ K3 ≤ K ∧ K4 ≤ K ∧ K5 ≤ K ∧ K6 ≤ K := ⟨K1 + K2 + K3 + K4 + K5 + K6, by omega, by omega, by omega, by omega, by omega, by omega⟩
    refine ⟨K, ?_⟩
    unfold lysimeterlaw18_MergeRange.f
    rw [if_pos ⟨alive18_ev, by omega⟩, if_neg hb, if_pos ⟨rng a1 a2 l, rng a1 a2 l, _, h1 K k1, h2 K k2, h3 K k3, h4 K k4, h5 K k5, h6 K k6⟩]

end Go.Proofs.Ytjilnpbgclnecac.Pure
