/- Which samples many lists make together is what the document's reference tells, the last list counting where times are one; what is handed in stays (statement MergeSamples); no condition. -/
import Derived.Test.YtjilnpbgclnecacPMergeSamplesx6
import Derived.Test.YtjilnpbgclnecacXPure
set_option linter.unusedVariables false
set_option linter.unusedSimpArgs false
namespace Go.Proofs.Ytjilnpbgclnecac.Pure
open Go Go.RowKit Go.Proofs.Ytjilnpbgclnecac.PMergeSamples Go.Proofs.Ytjilnpbgclnecac.XP Go.Proofs.YtjilnpbgclnecacW.PrintWords Go.Proofs.YtjilnpbgclnecacW.PrintLast Go.Proofs.YtjilnpbgclnecacW.PrintMore

/-! ### two rows of samples that are one -/
theorem rdS_nat {l : List S54} {i : Nat} (h : i < l.length) : rd_T54 l (i : Int) = l[i] := by
  unfold rd_T54
  rw [Int.toNat_natCast, List.getD_eq_getElem?_getD, List.getElem?_eq_getElem h]; rfl
theorem rdL_nat {l : List (List S54)} {i : Nat} (h : i < l.length) : rd_L2 l (i : Int) = l[i] := by
  unfold rd_L2
  rw [Int.toNat_natCast, List.getD_eq_getElem?_getD, List.getElem?_eq_getElem h]; rfl
theorem wiS {i n : Nat} (h : i < n) (hn : n ≤ 1152921504606846976) : wrap64 ((i : Int) + 1) = ((i + 1 : Nat) : Int) := by rw [w64 (by omega) (by omega)]; omega
theorem sams_l0 (a : List S54) (hn : a.length ≤ 1152921504606846976) : ∀ (d i : Nat), i + d = a.length → Ev (fun k => lysimeterref11_SameSamples.l0 k a a (i : Int)) true := by
  intro d
  induction d with
  | zero =>
    intro i hi
    refine Ev.step (f := fun _ => some true) (fun k => ?_) (Ev.now _)
    simp only [lysimeterref11_SameSamples.l0]
    rw [if_neg (by omega)]
  | succ d ih =>
    intro i hi
    have hlt : i < a.length := by omega
    refine Ev.step (f := fun k => lysimeterref11_SameSamples.l0 k a a ((i + 1 : Nat) : Int)) (fun k => ?_) (ih (i + 1) (by omega))
    simp only [lysimeterref11_SameSamples.l0]
    rw [if_pos (by omega), if_pos (by omega), if_pos (by omega), if_neg (by simp), wiS hlt hn]
theorem sams_self {a : List S54} (hn : a.length ≤ 1152921504606846976) : Ev (fun k => lysimeterref11_SameSamples.f k a a) true := by
  unfold lysimeterref11_SameSamples.f
  exact ev_if_pos rfl (sams_l0 a hn a.length 0 (by omega))
/-! ### a sample put in: the reference -/
theorem mkS (s : S54) : (⟨s.f0, s.f1⟩ : S54) = s := rfl
theorem putS_nil {s : S54} : XMg.put merge_Samples.key [] s = [s] := rfl
theorem putS_cons {x s : S54} {l : List S54} : XMg.put merge_Samples.key (x :: l) s = if s.f0 < x.f0 then s :: x :: l else if s.f0 = x.f0 then s :: l else x :: XMg.put merge_Samples.key l s := rfl
macro "lens" : tactic => `(tactic| ((try simp only [Int.toNat_natCast, List.length_append, List.length_take, List.length_drop, List.length_nil, List.length_cons, List.nil_append]); omega))
theorem putsamp_l0 (l : List S54) (s : S54) (hn : l.length < 4398046511104) : ∀ (d i : Nat), i + d = l.length → Ev (fun k => lysimeterref11_PutSample.l0 k l (i : Int) s.f0 s.f1) (l.take i ++ XMg.put merge_Samples.key (l.drop i) s) := by
  intro d
  induction d with
  | zero =>
    intro i hi
    have hj : Ev (fun k => lysimeterref11_PutSample.j1 k l (i : Int) s.f0 s.f1) (l.take i ++ [s]) := by
      refine Ev.step (f := fun _ => some (l.take i ++ [s])) (fun k => ?_) (Ev.now _)
      rw [lysimeterref11_PutSample.j1, if_pos (by lens), if_pos (by lens), Option.bind_some, if_pos (by lens), Option.bind_some, Option.bind_some, if_pos (by lens), Option.bind_some, if_neg (by lens), Option.bind_some, if_pos (by lens), Int.toNat_natCast, List.drop_of_length_le (by omega), List.append_nil, List.nil_append, mkS]
    rw [List.drop_of_length_le (by omega), putS_nil]
    refine Ev.step (f := fun k => lysimeterref11_PutSample.j1 k l (i : Int) s.f0 s.f1) (fun k => ?_) hj
    simp only [lysimeterref11_PutSample.l0]
    rw [if_neg (by omega)]
  | succ d ih =>
    intro i hi
    have hlt : i < l.length := by omega
    by_cases h1 : l[i].f0 < s.f0
    · refine Ev.step (f := fun k => lysimeterref11_PutSample.l0 k l ((i + 1 : Nat) : Int) s.f0 s.f1) (fun k => ?_) (ev_eq (ih (i + 1) (by omega)) ?_)
      · simp only [lysimeterref11_PutSample.l0]
        rw [if_pos (by omega), if_pos (by omega), rdS_nat hlt, if_pos h1, wiS hlt (by omega)]
      · rw [List.drop_eq_getElem_cons hlt, putS_cons, if_neg (by omega), if_neg (by omega), List.take_succ_eq_append_getElem hlt, List.append_assoc]
        rfl
    · have hj : Ev (fun k => lysimeterref11_PutSample.j1 k l (i : Int) s.f0 s.f1) (l.take i ++ XMg.put merge_Samples.key (l.drop i) s) := by
        rw [List.drop_eq_getElem_cons hlt, putS_cons]
        by_cases h2 : l[i].f0 = s.f0
        · rw [if_neg (by omega), if_pos h2.symm]
          refine Ev.step (f := fun _ => some (l.take i ++ s :: l.drop (i + 1))) (fun k => ?_) (Ev.now _)
          rw [lysimeterref11_PutSample.j1, if_pos (by lens), if_pos (by lens), Option.bind_some, if_pos (by lens), Option.bind_some, Option.bind_some, if_pos (by lens), Option.bind_some, if_pos (by lens), rdS_nat hlt, if_pos h2, wiS hlt (by omega), if_pos (by lens), if_pos (by lens), Option.bind_some, if_pos (by lens), Int.toNat_natCast, Int.toNat_natCast, List.nil_append, mkS, List.append_assoc]
          rfl
        · rw [if_pos (by omega)]
          refine Ev.step (f := fun _ => some (l.take i ++ s :: l[i] :: l.drop (i + 1))) (fun k => ?_) (Ev.now _)
          rw [lysimeterref11_PutSample.j1, if_pos (by lens), if_pos (by lens), Option.bind_some, if_pos (by lens), Option.bind_some, Option.bind_some, if_pos (by lens), Option.bind_some, if_pos (by lens), rdS_nat hlt, if_neg h2, Option.bind_some, if_pos (by lens), Int.toNat_natCast, List.nil_append, mkS, List.append_assoc, List.drop_eq_getElem_cons hlt]
          rfl
      refine Ev.step (f := fun k => lysimeterref11_PutSample.j1 k l (i : Int) s.f0 s.f1) (fun k => ?_) hj
      simp only [lysimeterref11_PutSample.l0]
      rw [if_pos (by omega), if_pos (by omega), rdS_nat hlt, if_neg h1]
theorem putsamp_ev {l : List S54} (s : S54) (hn : l.length < 4398046511104) : Ev (fun k => lysimeterref11_PutSample.f k l s.f0 s.f1) (XMg.put merge_Samples.key l s) := by
  unfold lysimeterref11_PutSample.f
  exact putsamp_l0 l s hn l.length 0 (by omega)
/-! ### many lists put together: the reference -/
theorem refmerge_l (x : List (List S54)) (hx : x.length ≤ 1152921504606846976) : ∀ (d i : Nat), i + d = x.length → ∀ acc : List S54, acc.length + ((x.drop i).flatten).length < 4398046511104 → Ev (fun k => lysimeterref16_Merge.l0 k x acc (i : Int)) (((x.drop i).flatten).foldl (XMg.put merge_Samples.key) acc) := by
  intro d
  induction d with
  | zero =>
    intro i hi acc hb
    rw [List.drop_of_length_le (by omega)]
    refine Ev.step (f := fun _ => some acc) (fun k => ?_) (Ev.now _)
    simp only [lysimeterref16_Merge.l0]
    rw [if_neg (by omega)]
  | succ d ih =>
    intro i hi acc hb
    have hlt : i < x.length := by omega
    rw [List.drop_eq_getElem_cons hlt, List.flatten_cons] at hb ⊢
    rw [List.length_append] at hb
    rw [List.foldl_append]
    have inner : ∀ (e j : Nat), j + e = x[i].length → ∀ acc : List S54, acc.length + e + ((x.drop (i + 1)).flatten).length < 4398046511104 → Ev (fun k => lysimeterref16_Merge.l1 k x acc (i : Int) (j : Int)) (((x.drop (i + 1)).flatten).foldl (XMg.put merge_Samples.key) ((x[i].drop j).foldl (XMg.put merge_Samples.key) acc)) := by
      intro e
      induction e with
      | zero =>
        intro j hj acc hb
        rw [List.drop_of_length_le (by omega)]
        refine Ev.step (f := fun k => lysimeterref16_Merge.l0 k x acc ((i + 1 : Nat) : Int)) (fun k => ?_) (ih (i + 1) (by omega) acc (by omega))
        simp only [lysimeterref16_Merge.l1]
        rw [if_pos (by omega), if_pos (by omega), rdL_nat hlt, if_neg (by omega), wiS hlt hx]
      | succ e ihe =>
        intro j hj acc hb
        have hjl : j < x[i].length := by omega
        rw [List.drop_eq_getElem_cons hjl, List.foldl_cons]
        have hput := putsamp_ev (l := acc) x[i][j] (by omega)
        have hpl := XMg.put_len (key := merge_Samples.key) acc x[i][j]
        refine Ev.step (f := fun k => (lysimeterref11_PutSample.f k acc x[i][j].f0 x[i][j].f1).bind fun t => lysimeterref16_Merge.l1 k x t (i : Int) ((j + 1 : Nat) : Int)) (fun k => ?_) (Ev.bind hput (ihe (j + 1) (by omega) _ (by omega)))
        simp only [lysimeterref16_Merge.l1]
        rw [if_pos (by omega), if_pos (by omega), rdL_nat hlt, if_pos (by omega), if_pos (by omega), rdS_nat hjl, wiS hjl (by omega)]
    refine Ev.step (f := fun k => lysimeterref16_Merge.l1 k x acc (i : Int) 0) (fun k => ?_) (inner x[i].length 0 (by omega) acc (by omega))
    simp only [lysimeterref16_Merge.l0]
    rw [if_pos (by omega)]
theorem refmerge_ev {x : List (List S54)} (hx : x.length ≤ 1152921504606846976) (hb : x.flatten.length < 4398046511104) : Ev (fun k => lysimeterref16_Merge.f k x) (XMg.mrg merge_Samples.key x.flatten) := by
  unfold lysimeterref16_Merge.f
  exact refmerge_l x hx x.length 0 (by omega) [] (by simpa using hb)
theorem samples_ev {x : List (List S54)} (hx : x.length < 1099511627776) (hb : x.flatten.length < 1099511627776) : merge_Samples.f x = some (XMg.mrg merge_Samples.key x.flatten) := by
  unfold merge_Samples.f
  rw [if_pos ⟨hx, hb⟩]
theorem alive18_ev : lysimeterlaw18_alive.f = some true := by
  have hm : XMg.mrg merge_Samples.key [(⟨1, 1⟩ : S54), ⟨2, 2⟩, ⟨2, 3⟩] = [⟨1, 1⟩, ⟨2, 3⟩] := by simp [XMg.mrg, XMg.put, merge_Samples.key]
  unfold lysimeterlaw18_alive.f
  rw [samples_ev (by decide) (by decide), show ([[(⟨1, 1⟩ : S54), ⟨2, 2⟩], [⟨2, 3⟩]] : List (List S54)).flatten = [⟨1, 1⟩, ⟨2, 2⟩, ⟨2, 3⟩] from rfl, hm]
  rfl
theorem mrgS_len (l : List S54) : (XMg.mrg merge_Samples.key l).length ≤ l.length := XMg.mrg_len l
theorem mem_flat_len {l : List (List S54)} {x : List S54} (h : x ∈ l) : x.length ≤ l.flatten.length := by
  induction l with
  | nil => cases h
  | cons y l ih =>
    rw [List.flatten_cons, List.length_append]
    rcases List.mem_cons.1 h with rfl | h
    · omega
    · have := ih h; omega
theorem big_l0 (l : List (List S54)) (hl : l.length ≤ 1152921504606846976) (hm : ∀ x ∈ l, x.length ≤ 1152921504606846976) : ∀ (d i : Nat), i + d = l.length → ∀ n : Nat, n ≤ 1500 → ∃ b, Ev (fun k => lysimeterlaw18_big.l0 k l (n : Int) (i : Int)) b ∧ (b = false → n + ((l.drop i).flatten).length ≤ 1500) := by
  intro d
  induction d with
  | zero =>
    intro i hi n hn
    refine ⟨false, Ev.step (f := fun _ => some false) (fun k => ?_) (Ev.now _), fun _ => ?_⟩
    · simp only [lysimeterlaw18_big.l0]
      rw [if_neg (by omega)]
    · rw [List.drop_of_length_le (by omega)]
      simpa using hn
  | succ d ih =>
    intro i hi n hn
    have hlt : i < l.length := by omega
    have hx := hm _ (List.getElem_mem hlt)
    have hw : wrap64 ((n : Int) + (l[i].length : Int)) = ((n + l[i].length : Nat) : Int) := by rw [w64 (by omega) (by omega)]; omega
    by_cases hc : n + l[i].length > 1500
    · refine ⟨true, Ev.step (f := fun _ => some true) (fun k => ?_) (Ev.now _), fun h => by cases h⟩
      simp only [lysimeterlaw18_big.l0]
      rw [if_pos (by omega), if_pos (by omega), rdL_nat hlt, hw, if_pos (by omega)]
    · obtain ⟨b, hb, hbf⟩ := ih (i + 1) (by omega) (n + l[i].length) (by omega)
      refine ⟨b, Ev.step (f := fun k => lysimeterlaw18_big.l0 k l ((n + l[i].length : Nat) : Int) ((i + 1 : Nat) : Int)) (fun k => ?_) hb, fun h => ?_⟩
      · simp only [lysimeterlaw18_big.l0]
        rw [if_pos (by omega), if_pos (by omega), rdL_nat hlt, hw, if_neg (by omega), wiS hlt hl]
      · have := hbf h
        rw [List.drop_eq_getElem_cons hlt, List.flatten_cons, List.length_append]
        omega
theorem big_ev (l : List (List S54)) (hl : l.length ≤ 1152921504606846976) (hm : ∀ x ∈ l, x.length ≤ 1152921504606846976) : ∃ b, Ev (fun k => lysimeterlaw18_big.f k l) b ∧ (b = false → l.length ≤ 50 ∧ l.flatten.length ≤ 1500) := by
  unfold lysimeterlaw18_big.f
  by_cases h : (l.length : Int) > 50
  · exact ⟨true, ev_if_pos h (Ev.now _), fun h => by cases h⟩
  · obtain ⟨b, hb, hbf⟩ := big_l0 l hl hm l.length 0 (by omega) 0 (by omega)
    refine ⟨b, ev_if_neg h hb, fun e => ⟨by omega, ?_⟩⟩
    have := hbf e
    simpa using this
theorem copied_l0 (l : List (List S54)) (hl : l.length ≤ 50) (hm : l.flatten.length ≤ 1500) : ∀ (d i : Nat), i + d = l.length → Ev (fun k => lysimeterlaw18_copied.l0 k l (l.take i) (i : Int)) l := by
  intro d
  induction d with
  | zero =>
    intro i hi
    refine Ev.step (f := fun _ => some (l.take i)) (fun k => ?_) (ev_eq (Ev.now _) (List.take_of_length_le (by omega)))
    simp only [lysimeterlaw18_copied.l0]
    rw [if_neg (by omega)]
  | succ d ih =>
    intro i hi
    have hlt : i < l.length := by omega
    have hx := mem_flat_len (List.getElem_mem hlt)
    refine Ev.step (f := fun k => lysimeterlaw18_copied.l0 k l (l.take (i + 1)) ((i + 1 : Nat) : Int)) (fun k => ?_) (ih (i + 1) (by omega))
    simp only [lysimeterlaw18_copied.l0]
    rw [if_pos (by omega), if_pos (by omega), rdL_nat hlt, if_pos (by simp only [List.length_nil]; omega), if_pos (by rw [List.length_take]; omega), wiS hlt (by omega), List.nil_append, List.take_succ_eq_append_getElem hlt]
theorem MergeSamples : lysimeterlaw18_MergeSamples.Pure := by
  intro l ⟨hl, hm⟩
  have hM : reachBytes = 140737488351232 := rfl
  rw [hM] at hl hm
  obtain ⟨b, hb, hbf⟩ := big_ev l (by omega) (fun x hx => by have := (hm x hx).1; omega)
  refine Ev.rounds ?_
  unfold lysimeterlaw18_MergeSamples.f
  refine ev_one_bind alive18_ev (Ev.bind hb ?_)
  simp only [if_true]
  cases b with
  | true =>
    refine Ev.step (f := fun _ => some true) (fun k => ?_) (Ev.now _)
    simp only [lysimeterlaw18_MergeSamples.j0, if_true]
  | false =>
    obtain ⟨h1, h2⟩ := hbf rfl
    have hcp : Ev (fun k => lysimeterlaw18_copied.f k l) l := by
      unfold lysimeterlaw18_copied.f
      exact copied_l0 l h1 h2 l.length 0 (by omega)
    have hl1 : ∀ (d i : Nat), i + d = l.length → Ev (fun k => lysimeterlaw18_MergeSamples.l1 k l l (i : Int)) true := by
      intro d
      induction d with
      | zero =>
        intro i hi
        refine Ev.step (f := fun _ => some true) (fun k => ?_) (Ev.now _)
        simp only [lysimeterlaw18_MergeSamples.l1]
        rw [if_neg (by omega)]
      | succ d ih =>
        intro i hi
        have hlt : i < l.length := by omega
        have hx := mem_flat_len (List.getElem_mem hlt)
        refine Ev.step (f := fun k => (lysimeterref11_SameSamples.f k l[i] l[i]).bind fun t => if t = true then lysimeterlaw18_MergeSamples.l1 k l l ((i + 1 : Nat) : Int) else some false) (fun k => ?_) (Ev.bind (sams_self (a := l[i]) (by omega)) (ev_if_pos rfl (ih (i + 1) (by omega))))
        simp only [lysimeterlaw18_MergeSamples.l1]
        rw [if_pos (by omega), if_pos (by omega), if_pos (by omega), rdL_nat hlt, wiS hlt (by omega)]
    have hl0 : ∀ (d i : Nat) (a : List S54), a.length ≤ 1500 → i + d = a.length → Ev (fun k => lysimeterlaw18_MergeSamples.l0 k l l a (i : Int)) true := by
      intro d
      induction d with
      | zero =>
        intro i a ha hi
        refine Ev.step (f := fun k => lysimeterlaw18_MergeSamples.l1 k l l 0) (fun k => ?_) (hl1 l.length 0 (by omega))
        simp only [lysimeterlaw18_MergeSamples.l0]
        rw [if_neg (by omega)]
      | succ d ih =>
        intro i a ha hi
        refine Ev.step (f := fun k => lysimeterlaw18_MergeSamples.l0 k l l (a.set ((i : Nat) : Int).toNat ⟨-1, 0⟩) ((i + 1 : Nat) : Int)) (fun k => ?_) (ih (i + 1) _ (by rw [List.length_set]; exact ha) (by rw [List.length_set]; omega))
        simp only [lysimeterlaw18_MergeSamples.l0]
        rw [if_pos (by omega), if_pos (by omega), wiS (n := a.length) (by omega) (by omega)]
    have hml := mrgS_len l.flatten
    refine Ev.step (f := fun k => (lysimeterlaw18_copied.f k l).bind fun t170 => (merge_Samples.f t170).bind fun t173 => (lysimeterref16_Merge.f k l).bind fun t176 => (lysimeterref11_SameSamples.f k t173 t176).bind fun t179 => if t179 = true then lysimeterlaw18_MergeSamples.l0 k l t170 t173 0 else some false) (fun k => ?_) ?_
    · simp only [lysimeterlaw18_MergeSamples.j0]
      rw [if_neg (by decide)]
    · refine Ev.bind hcp (ev_one_bind (samples_ev (by omega) (by omega)) (Ev.bind (refmerge_ev (by omega) (by omega)) (Ev.bind (sams_self (a := XMg.mrg merge_Samples.key l.flatten) (by omega)) (ev_if_pos rfl (hl0 (XMg.mrg merge_Samples.key l.flatten).length 0 _ (by omega) (by omega))))))

end Go.Proofs.Ytjilnpbgclnecac.Pure
