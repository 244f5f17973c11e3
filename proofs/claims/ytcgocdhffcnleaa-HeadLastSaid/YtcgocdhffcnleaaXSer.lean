/- Rows put together by label: what a stable sort, cut into groups, makes of them, and what putting them in one by one makes. Plain lists: no program in sight. -/
import Derived.Test.YtcgocdhffcnleaaXMerge
import Derived.Test.YtcgocdhffcnleaaXStable
set_option linter.unusedVariables false
set_option linter.unusedSimpArgs false
set_option linter.unusedSectionVars false
namespace Go.Proofs.Ytcgocdhffcnleaa.XSer
open Go.Proofs.Ytcgocdhffcnleaa.XMg
theorem sor_ext {α : Type} {lt : α → α → Prop} (irr : ∀ x, ¬ lt x x) (tr : ∀ x y z, lt x y → lt y z → lt x z) : ∀ {l m : List α}, l.Pairwise lt → m.Pairwise lt → (∀ x, x ∈ l ↔ x ∈ m) → l = m
  | [], [], _, _, _ => rfl
  | [], y :: m, _, _, h => absurd ((h y).2 List.mem_cons_self) (by simp)
  | x :: l, [], _, _, h => absurd ((h x).1 List.mem_cons_self) (by simp)
  | x :: l, y :: m, hl, hm, h => by
    have hl' := List.pairwise_cons.1 hl
    have hm' := List.pairwise_cons.1 hm
    have exy : x = y := by
      rcases List.mem_cons.1 ((h x).1 List.mem_cons_self) with e | hx
      · exact e
      · rcases List.mem_cons.1 ((h y).2 List.mem_cons_self) with e | hy
        · exact e.symm
        · exact absurd (tr _ _ _ (hm'.1 x hx) (hl'.1 y hy)) (irr _)
    subst exy
    congr 1
    refine sor_ext irr tr hl'.2 hm'.2 (fun z => ⟨fun hz => ?_, fun hz => ?_⟩)
    · rcases List.mem_cons.1 ((h z).1 (List.mem_cons_of_mem _ hz)) with e | hz'
      · subst e; exact absurd (hl'.1 _ hz) (irr _)
      · exact hz'
    · rcases List.mem_cons.1 ((h z).2 (List.mem_cons_of_mem _ hz)) with e | hz'
      · subst e; exact absurd (hm'.1 _ hz) (irr _)
      · exact hz'
section
variable {L S : Type} (c : L → L → Int) (key : S → Int)
def ins : List (L × List S) → L × List S → List (L × List S)
  | [], x => [(x.1, mrg key x.2)]
  | (a, s) :: out, x => if c a x.1 < 0 then (a, s) :: ins out x else if c a x.1 = 0 then (a, mrg key (s ++ x.2)) :: out else (x.1, mrg key x.2) :: (a, s) :: out
def refser (all : List (L × List S)) : List (L × List S) := all.foldl (fun out x => if x.2.isEmpty then out else ins c key out x) []
def cat (all : List (L × List S)) (lab : L) : List S := (all.filter fun x => decide (c x.1 lab = 0)).flatMap (·.2)
variable {c key}
theorem cat_snoc (all : List (L × List S)) (x : L × List S) (lab : L) : cat c (all ++ [x]) lab = cat c all lab ++ (if c x.1 lab = 0 then x.2 else []) := by
  unfold cat
  rw [List.filter_append, List.flatMap_append]
  congr 1
  by_cases h : c x.1 lab = 0 <;> simp [h]
theorem mrg_nil_iff {l : List S} : mrg key l = [] ↔ l = [] := by
  constructor
  · intro h
    rcases List.eq_nil_or_concat l with e | ⟨q, y, e⟩
    · exact e
    · exfalso
      have h1 := look_mrg (key := key) l (key y)
      rw [h, e, List.concat_eq_append, lst_append] at h1
      simp [XMg.look, XMg.lst] at h1
  · rintro rfl; rfl
/-- The order of labels. -/
structure Ord (c : L → L → Int) : Prop where
  zero : ∀ x y, c x y = 0 ↔ x = y
  anti : ∀ x y, c x y < 0 ↔ 0 < c y x
  tr : ∀ x y z, c x y < 0 → c y z < 0 → c x z < 0
def Sor (c : L → L → Int) (l : List (L × List S)) : Prop := l.Pairwise fun x y => c x.1 y.1 < 0
theorem Ord.irr (o : Ord c) (x : L) : ¬ c x x < 0 := by have := (o.zero x x).2 rfl; omega
theorem Ord.ne (o : Ord c) {x y : L} (h : c x y < 0) : x ≠ y := fun e => by subst e; exact o.irr _ h
theorem ins_lt (o : Ord c) {b : L} {x : L × List S} (hb : c b x.1 < 0) : ∀ {out : List (L × List S)}, (∀ y ∈ out, c b y.1 < 0) → ∀ y ∈ ins c key out x, c b y.1 < 0
  | [], _, y, hy => by
    obtain rfl := List.mem_singleton.1 hy
    exact hb
  | (a, t) :: out, h, y, hy => by
    unfold ins at hy
    have ha := h _ List.mem_cons_self
    split at hy
    · rcases List.mem_cons.1 hy with rfl | hy
      · exact ha
      · exact ins_lt o hb (fun y hy => h y (List.mem_cons_of_mem _ hy)) y hy
    · split at hy
      · rcases List.mem_cons.1 hy with rfl | hy
        · exact ha
        · exact h y (List.mem_cons_of_mem _ hy)
      · rcases List.mem_cons.1 hy with rfl | hy
        · exact hb
        · exact h y hy
theorem ins_sor (o : Ord c) {x : L × List S} : ∀ {out : List (L × List S)}, Sor c out → Sor c (ins c key out x)
  | [], _ => List.pairwise_singleton _ _
  | (a, t) :: out, h => by
    have hh := List.pairwise_cons.1 h
    unfold ins
    split
    · rename_i h1
      exact List.pairwise_cons.2 ⟨ins_lt o h1 (fun y hy => hh.1 y hy), ins_sor o hh.2⟩
    · rename_i h1
      split
      · exact List.pairwise_cons.2 ⟨fun y hy => hh.1 y hy, hh.2⟩
      · rename_i h2
        have h3 : c x.1 a < 0 := (o.anti _ _).2 (by omega)
        refine List.pairwise_cons.2 ⟨fun y hy => ?_, h⟩
        rcases List.mem_cons.1 hy with rfl | hy
        · exact h3
        · exact o.tr _ _ _ h3 (hh.1 y hy)
/-- What stands under a label. -/
theorem ins_mem (o : Ord c) {x : L × List S} : ∀ {out : List (L × List S)}, Sor c out → ∀ lab s, (lab, s) ∈ ins c key out x ↔ (lab ≠ x.1 ∧ (lab, s) ∈ out) ∨ (lab = x.1 ∧ ((∃ s0, (lab, s0) ∈ out ∧ s = mrg key (s0 ++ x.2)) ∨ ((∀ s0, (lab, s0) ∉ out) ∧ s = mrg key x.2)))
  | [], _, lab, s => by
    unfold ins
    simp only [List.mem_singleton, Prod.mk.injEq, List.not_mem_nil, false_and, and_false, exists_const, not_false_iff, implies_true, true_and, false_or]
  | (a, t) :: out, h, lab, s => by
    have hh := List.pairwise_cons.1 h
    have hne : ∀ s0, (a, s0) ∉ out := fun s0 hs => o.irr a (hh.1 (a, s0) hs)
    unfold ins
    split
    · rename_i h1
      have hax : a ≠ x.1 := o.ne h1
      rw [List.mem_cons, ins_mem o hh.2 lab s]
      by_cases hl : lab = x.1
      · have hla : lab ≠ a := fun e => hax (e ▸ hl)
        simp [hl, hla, Ne.symm hax]
      · simp [hl]
    · rename_i h1
      split
      · rename_i h2
        have hax : a = x.1 := (o.zero _ _).1 h2
        by_cases hl : lab = x.1
        · have hla : lab = a := hl.trans hax.symm
          subst hla
          simp only [List.mem_cons, Prod.mk.injEq, true_and, hl, ne_eq, not_true, false_and, false_or]
          rw [← hl]
          constructor
          · rintro (rfl | hs)
            · exact .inl ⟨t, .inl rfl, rfl⟩
            · exact absurd hs (hne _)
          · rintro (⟨s0, rfl | hs, rfl⟩ | ⟨hn, _⟩)
            · exact .inl rfl
            · exact absurd hs (hne _)
            · exact absurd (.inl rfl) (hn t)
        · have hla : lab ≠ a := fun e => hl (e.trans hax)
          simp [hl, hla]
      · rename_i h2
        have h3 : c x.1 a < 0 := (o.anti _ _).2 (by omega)
        have hxa : x.1 ≠ a := o.ne h3
        have hno : ∀ s0, (x.1, s0) ∉ out := fun s0 hs => o.irr x.1 (o.tr _ _ _ h3 (hh.1 (x.1, s0) hs))
        by_cases hl : lab = x.1
        · subst hl
          simp [hxa, hno]
        · simp [hl]
/-- What a row of series is, once put together. -/
def Is (c : L → L → Int) (key : S → Int) (all out : List (L × List S)) : Prop := Sor c out ∧ ∀ lab s, (lab, s) ∈ out ↔ cat c all lab ≠ [] ∧ s = mrg key (cat c all lab)
theorem Is.uniq (o : Ord c) {all out out' : List (L × List S)} (h : Is c key all out) (h' : Is c key all out') : out = out' :=
  sor_ext (lt := fun x y : L × List S => c x.1 y.1 < 0) (fun x => o.irr x.1) (fun x y z => o.tr x.1 y.1 z.1) h.1 h'.1 (fun x => (h.2 x.1 x.2).trans (h'.2 x.1 x.2).symm)
theorem Is.of_cat {all all' out : List (L × List S)} (h : Is c key all out) (e : ∀ lab, cat c all lab = cat c all' lab) : Is c key all' out := ⟨h.1, fun lab s => by rw [← e]; exact h.2 lab s⟩
theorem Is.step (o : Ord c) {all out : List (L × List S)} {x : L × List S} (h : Is c key all out) : Is c key (all ++ [x]) (if x.2.isEmpty then out else ins c key out x) := by
  by_cases hx : x.2 = []
  · rw [hx]
    exact h.of_cat (fun lab => by rw [cat_snoc, hx]; simp)
  · rw [if_neg (by simpa using hx)]
    refine ⟨ins_sor o h.1, fun lab s => ?_⟩
    rw [ins_mem o h.1, cat_snoc]
    by_cases hl : lab = x.1
    · subst hl
      rw [if_pos ((o.zero _ _).2 rfl)]
      simp only [ne_eq, not_true, false_and, true_and, false_or, List.append_eq_nil_iff, hx, and_false, not_false_iff]
      by_cases hc : cat c all x.1 = []
      · rw [hc, List.nil_append]
        constructor
        · rintro (⟨s0, hs, _⟩ | ⟨_, e⟩)
          · exact absurd hc ((h.2 _ _).1 hs).1
          · exact e
        · intro e
          exact .inr ⟨fun s0 hs => ((h.2 _ _).1 hs).1 hc, e⟩
      · have hm : mrg key (mrg key (cat c all x.1) ++ x.2) = mrg key (cat c all x.1 ++ x.2) := mrg_congr fun t => by rw [lst_append, lst_mrg, lst_append]
        constructor
        · rintro (⟨s0, hs, e⟩ | ⟨hn, _⟩)
          · rw [e, ((h.2 _ _).1 hs).2, hm]
          · exact absurd ((h.2 _ _).2 ⟨hc, rfl⟩) (hn _)
        · intro e
          exact .inl ⟨_, (h.2 _ _).2 ⟨hc, rfl⟩, by rw [e, hm]⟩
    · rw [if_neg (fun e => hl ((o.zero _ _).1 e).symm), List.append_nil, h.2]
      simp [hl]
theorem Is.nil : Is c key [] [] := ⟨List.Pairwise.nil, fun lab s => by simp [cat]⟩
theorem refser_fold (o : Ord c) : ∀ (l all out : List (L × List S)), Is c key all out → Is c key (all ++ l) (l.foldl (fun out x => if x.2.isEmpty then out else ins c key out x) out)
  | [], all, out, h => by rw [List.append_nil]; exact h
  | x :: l, all, out, h => by
    have := refser_fold o l (all ++ [x]) _ (h.step (x := x) o)
    rw [List.append_assoc] at this
    exact this
theorem refser_is (o : Ord c) (all : List (L × List S)) : Is c key all (refser c key all) := refser_fold o all [] [] Is.nil
theorem cat_append (a b : List (L × List S)) (lab : L) : cat c (a ++ b) lab = cat c a lab ++ cat c b lab := by
  unfold cat
  rw [List.filter_append, List.flatMap_append]
theorem cat_all {b : L} {run : List (L × List S)} (h : ∀ y ∈ run, c y.1 b = 0) : cat c run b = run.flatMap (·.2) := by
  unfold cat
  rw [List.filter_eq_self.2 (fun y hy => decide_eq_true (h y hy))]
theorem cat_none {b : L} {run : List (L × List S)} (h : ∀ y ∈ run, c y.1 b ≠ 0) : cat c run b = [] := by
  unfold cat
  rw [List.filter_eq_nil_iff.2 (fun y hy => by simpa using h y hy)]
  rfl
/-- A run of equal labels, behind all that is less. -/
theorem Is.group (o : Ord c) {done out run : List (L × List S)} {b : L} (h : Is c key done out) (hd : ∀ y ∈ done, c y.1 b < 0) (hr : ∀ y ∈ run, c y.1 b = 0) :
    Is c key (done ++ run) (if (mrg key (run.flatMap (·.2))).isEmpty then out else out ++ [(b, mrg key (run.flatMap (·.2)))]) := by
  have hdb : cat c done b = [] := cat_none (fun y hy e => by have := hd y hy; omega)
  have hother : ∀ lab, lab ≠ b → cat c run lab = [] := fun lab hl => cat_none (fun y hy e => hl (by
    have e1 := (o.zero _ _).1 e
    have e2 := (o.zero _ _).1 (hr y hy)
    exact e1.symm.trans e2))
  by_cases hn : run.flatMap (·.2) = []
  · rw [if_pos (by rw [hn]; rfl)]
    refine h.of_cat (fun lab => ?_)
    rw [cat_append]
    by_cases hl : lab = b
    · subst hl
      rw [cat_all hr, hn, List.append_nil]
    · rw [hother lab hl, List.append_nil]
  · have hm : mrg key (run.flatMap (·.2)) ≠ [] := fun e => hn (mrg_nil_iff.1 e)
    rw [if_neg (by simpa using hm)]
    have hlt : ∀ y ∈ out, c y.1 b < 0 := by
      intro y hy
      have h1 := ((h.2 y.1 y.2).1 hy).1
      by_cases he : ∃ z ∈ done, c z.1 y.1 = 0
      · obtain ⟨z, hz, e⟩ := he
        have := hd z hz
        rwa [(o.zero _ _).1 e] at this
      · exact absurd (cat_none (fun z hz e => he ⟨z, hz, e⟩)) h1
    refine ⟨List.pairwise_append.2 ⟨h.1, List.pairwise_singleton _ _, fun x hx y hy => by obtain rfl := List.mem_singleton.1 hy; exact hlt x hx⟩, fun lab s => ?_⟩
    rw [List.mem_append, List.mem_singleton, Prod.mk.injEq, cat_append, h.2]
    by_cases hl : lab = b
    · subst hl
      rw [hdb, cat_all hr]
      simp [hn]
    · rw [hother lab hl, List.append_nil]
      simp [hl]
theorem zip_mono : ∀ (l : List (L × List S)) (n : Nat), (l.zipIdx n).Pairwise (fun x y => x.2 < y.2) ∧ ∀ x ∈ l.zipIdx n, n ≤ x.2
  | [], n => ⟨List.Pairwise.nil, fun x hx => by cases hx⟩
  | a :: l, n => by
    obtain ⟨h1, h2⟩ := zip_mono l (n + 1)
    rw [List.zipIdx_cons]
    refine ⟨List.pairwise_cons.2 ⟨fun y hy => ?_, h1⟩, fun x hx => ?_⟩
    · have := h2 y hy
      show n < y.2
      omega
    · rcases List.mem_cons.1 hx with rfl | hx
      · exact Nat.le_refl _
      · have := h2 x hx; omega
theorem fst_zip : ∀ (l : List (L × List S)) (n : Nat), (l.zipIdx n).map (·.1) = l
  | [], n => rfl
  | a :: l, n => by rw [List.zipIdx_cons, List.map_cons, fst_zip l (n + 1)]
/-- A stable sort leaves what stands under each label as it was. -/
theorem cat_sort {all : List (L × List S)} {srt : List ((L × List S) × Nat)} (hp : srt.Perm all.zipIdx) (lab : L) (hs : srt.Pairwise fun x y => c x.1.1 lab = 0 → c y.1.1 lab = 0 → x.2 ≤ y.2) : cat c (srt.map (·.1)) lab = cat c all lab := by
  have hB := (zip_mono all 0).1
  have hf : srt.filter (fun x => decide (c x.1.1 lab = 0)) = all.zipIdx.filter (fun x => decide (c x.1.1 lab = 0)) := by
    have hB' : (all.zipIdx.filter (fun x => decide (c x.1.1 lab = 0))).Pairwise (fun x y => x.2 < y.2) := hB.filter _
    have hpf : (srt.filter (fun x => decide (c x.1.1 lab = 0))).Perm (all.zipIdx.filter (fun x => decide (c x.1.1 lab = 0))) := hp.filter _
    have hnd : ((srt.filter (fun x => decide (c x.1.1 lab = 0))).map (·.2)).Nodup := (hpf.map _).nodup_iff.2 (List.Pairwise.map _ (fun x y h => by omega) hB')
    have hA : (srt.filter (fun x => decide (c x.1.1 lab = 0))).Pairwise (fun x y => x.2 ≤ y.2) := by
      refine List.Pairwise.imp_of_mem ?_ (hs.filter _)
      intro x y hx hy h
      exact h (of_decide_eq_true (List.mem_filter.1 hx).2) (of_decide_eq_true (List.mem_filter.1 hy).2)
    have hA' : (srt.filter (fun x => decide (c x.1.1 lab = 0))).Pairwise (fun x y => x.2 < y.2) := by
      have h1 := List.pairwise_map.1 hnd
      exact (hA.and h1).imp (fun ⟨h1, h2⟩ => by omega)
    exact sor_ext (lt := fun x y : (L × List S) × Nat => x.2 < y.2) (fun x h => by omega) (fun x y z h1 h2 => by omega) hA' hB' (fun x => hpf.mem_iff)
  have hm := congrArg (List.map (·.1)) hf
  have hmap : ∀ l : List ((L × List S) × Nat), (l.map (·.1)).filter (fun x => decide (c x.1 lab = 0)) = (l.filter (fun x => decide (c x.1.1 lab = 0))).map (·.1) := fun l => by rw [List.filter_map]; rfl
  unfold cat
  rw [hmap srt, hm, ← hmap, fst_zip]
end
end Go.Proofs.Ytcgocdhffcnleaa.XSer
