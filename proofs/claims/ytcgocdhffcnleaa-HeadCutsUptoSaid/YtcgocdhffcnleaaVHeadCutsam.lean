/- Parts of the proof of the law's row, put together: see the theorems' own lines. -/
import Derived.Test.YtcgocdhffcnleaaVHeadCutsak
import Derived.Test.YtcgocdhffcnleaaVHeadCutsal
/- Rows put together by label: what a stable sort, cut into groups, makes of them, and what putting them in one by one makes. Plain lists: no program in sight. -/
set_option linter.unusedVariables false
set_option linter.unusedSimpArgs false
set_option linter.unusedSectionVars false
namespace Go.Proofs.Ytcgocdhffcnleaa.XSer
open Go.Proofs.Ytcgocdhffcnleaa.XMg
theorem sor_ext {α : Type} {lt : α → α → Prop} (irr : ∀ x, ¬ lt x x) (tr : ∀ x y z, lt x y → lt y z → lt x z) : ∀ {l m : List α}, l.Pairwise lt → m.Pairwise lt → (∀ x, x ∈ l ↔ x ∈ m) → l = m
  | [], [], _, _, _ => rfl
  | [], y :: m, _, _, h => absurd ((h y).2 List.mem_cons_self) (by simp)
  | x :: l, [], _, _, h => absurd ((h x).1 List.mem_cons_self) (by simp)
  | x :: l, y :: m, hl, hm, h => by
    have hl' := List.pairwise_cons.1 hl
    have hm' := List.pairwise_cons.1 hm
    have exy : x = y := by
      rcases List.mem_cons.1 ((h x).1 List.mem_cons_self) with e | hx
      · exact e
      · rcases List.mem_cons.1 ((h y).2 List.mem_cons_self) with e | hy
        · exact e.symm
        · exact absurd (tr _ _ _ (hm'.1 x hx) (hl'.1 y hy)) (irr _)
    subst exy
    congr 1
    refine sor_ext irr tr hl'.2 hm'.2 (fun z => ⟨fun hz => ?_, fun hz => ?_⟩)
    · rcases List.mem_cons.1 ((h z).1 (List.mem_cons_of_mem _ hz)) with e | hz'
      · subst e; exact absurd (hl'.1 _ hz) (irr _)
      · exact hz'
    · rcases List.mem_cons.1 ((h z).2 (List.mem_cons_of_mem _ hz)) with e | hz'
      · subst e; exact absurd (hm'.1 _ hz) (irr _)
      · exact hz'
section
variable {L S : Type} (c : L → L → Int) (key : S → Int)
def ins : List (L × List S) → L × List S → List (L × List S)
  | [], x => [(x.1, mrg key x.2)]
  | (a, s) :: out, x => if c a x.1 < 0 then (a, s) :: ins out x else if c a x.1 = 0 then (a, mrg key (s ++ x.2)) :: out else (x.1, mrg key x.2) :: (a, s) :: out
def refser (all : List (L × List S)) : List (L × List S) := all.foldl (fun out x => if x.2.isEmpty then out else ins c key out x) []
def cat (all : List (L × List S)) (lab : L) : List S := (all.filter fun x => decide (c x.1 lab = 0)).flatMap (·.2)
variable {c key}
theorem cat_snoc (all : List (L × List S)) (x : L × List S) (lab : L) : cat c (all ++ [x]) lab = cat c all lab ++ (if c x.1 lab = 0 then x.2 else []) := by
  unfold cat
  rw [List.filter_append, List.flatMap_append]
  congr 1
  by_cases h : c x.1 lab = 0 <;> simp [h]
/-- The order of labels. -/
structure Ord (c : L → L → Int) : Prop where
  zero : ∀ x y, c x y = 0 ↔ x = y
  anti : ∀ x y, c x y < 0 ↔ 0 < c y x
  tr : ∀ x y z, c x y < 0 → c y z < 0 → c x z < 0
def Sor (c : L → L → Int) (l : List (L × List S)) : Prop := l.Pairwise fun x y => c x.1 y.1 < 0
theorem Ord.irr (o : Ord c) (x : L) : ¬ c x x < 0 := by have := (o.zero x x).2 rfl; omega
theorem Ord.ne (o : Ord c) {x y : L} (h : c x y < 0) : x ≠ y := fun e => by subst e; exact o.irr _ h
theorem ins_lt (o : Ord c) {b : L} {x : L × List S} (hb : c b x.1 < 0) : ∀ {out : List (L × List S)}, (∀ y ∈ out, c b y.1 < 0) → ∀ y ∈ ins c key out x, c b y.1 < 0
  | [], _, y, hy => by
    obtain rfl := List.mem_singleton.1 hy
    exact hb
  | (a, t) :: out, h, y, hy => by
    unfold ins at hy
    have ha := h _ List.mem_cons_self
    split at hy
    · rcases List.mem_cons.1 hy with rfl | hy
      · exact ha
      · exact ins_lt o hb (fun y hy => h y (List.mem_cons_of_mem _ hy)) y hy
    · split at hy
      · rcases List.mem_cons.1 hy with rfl | hy
        · exact ha
        · exact h y (List.mem_cons_of_mem _ hy)
      · rcases List.mem_cons.1 hy with rfl | hy
        · exact hb
        · exact h y hy
theorem ins_sor (o : Ord c) {x : L × List S} : ∀ {out : List (L × List S)}, Sor c out → Sor c (ins c key out x)
  | [], _ => List.pairwise_singleton _ _
  | (a, t) :: out, h => by
    have hh := List.pairwise_cons.1 h
    unfold ins
    split
    · rename_i h1
      exact List.pairwise_cons.2 ⟨ins_lt o h1 (fun y hy => hh.1 y hy), ins_sor o hh.2⟩
    · rename_i h1
      split
      · exact List.pairwise_cons.2 ⟨fun y hy => hh.1 y hy, hh.2⟩
      · rename_i h2
        have h3 : c x.1 a < 0 := (o.anti _ _).2 (by omega)
        refine List.pairwise_cons.2 ⟨fun y hy => ?_, h⟩
        rcases List.mem_cons.1 hy with rfl | hy
        · exact h3
        · exact o.tr _ _ _ h3 (hh.1 y hy)
/-- What stands under a label. -/
theorem ins_mem (o : Ord c) {x : L × List S} : ∀ {out : List (L × List S)}, Sor c out → ∀ lab s, (lab, s) ∈ ins c key out x ↔ (lab ≠ x.1 ∧ (lab, s) ∈ out) ∨ (lab = x.1 ∧ ((∃ s0, (lab, s0) ∈ out ∧ s = mrg key (s0 ++ x.2)) ∨ ((∀ s0, (lab, s0) ∉ out) ∧ s = mrg key x.2)))
  | [], _, lab, s => by
    unfold ins
    simp only [List.mem_singleton, Prod.mk.injEq, List.not_mem_nil, false_and, and_false, exists_const, not_false_iff, implies_true, true_and, false_or]
  | (a, t) :: out, h, lab, s => by
    have hh := List.pairwise_cons.1 h
    have hne : ∀ s0, (a, s0) ∉ out := fun s0 hs => o.irr a (hh.1 (a, s0) hs)
    unfold ins
    split
    · rename_i h1
      have hax : a ≠ x.1 := o.ne h1
      rw [List.mem_cons, ins_mem o hh.2 lab s]
      by_cases hl : lab = x.1
      · have hla : lab ≠ a := fun e => hax (e ▸ hl)
        simp [hl, hla, Ne.symm hax]
      · simp [hl]
    · rename_i h1
      split
      · rename_i h2
        have hax : a = x.1 := (o.zero _ _).1 h2
        by_cases hl : lab = x.1
        · have hla : lab = a := hl.trans hax.symm
          subst hla
          simp only [List.mem_cons, Prod.mk.injEq, true_and, hl, ne_eq, not_true, false_and, false_or]
          rw [← hl]
          constructor
          · rintro (rfl | hs)
            · exact .inl ⟨t, .inl rfl, rfl⟩
            · exact absurd hs (hne _)
          · rintro (⟨s0, rfl | hs, rfl⟩ | ⟨hn, _⟩)
            · exact .inl rfl
            · exact absurd hs (hne _)
            · exact absurd (.inl rfl) (hn t)
        · have hla : lab ≠ a := fun e => hl (e.trans hax)
          simp [hl, hla]
      · rename_i h2
        have h3 : c x.1 a < 0 := (o.anti _ _).2 (by omega)
        have hxa : x.1 ≠ a := o.ne h3
        have hno : ∀ s0, (x.1, s0) ∉ out := fun s0 hs => o.irr x.1 (o.tr _ _ _ h3 (hh.1 (x.1, s0) hs))
        by_cases hl : lab = x.1
        · subst hl
          simp [hxa, hno]
        · simp [hl]
/-- What a row of series is, once put together. -/
def Is (c : L → L → Int) (key : S → Int) (all out : List (L × List S)) : Prop := Sor c out ∧ ∀ lab s, (lab, s) ∈ out ↔ cat c all lab ≠ [] ∧ s = mrg key (cat c all lab)
theorem Is.uniq (o : Ord c) {all out out' : List (L × List S)} (h : Is c key all out) (h' : Is c key all out') : out = out' :=
  sor_ext (lt := fun x y : L × List S => c x.1 y.1 < 0) (fun x => o.irr x.1) (fun x y z => o.tr x.1 y.1 z.1) h.1 h'.1 (fun x => (h.2 x.1 x.2).trans (h'.2 x.1 x.2).symm)
theorem Is.of_cat {all all' out : List (L × List S)} (h : Is c key all out) (e : ∀ lab, cat c all lab = cat c all' lab) : Is c key all' out := ⟨h.1, fun lab s => by rw [← e]; exact h.2 lab s⟩
theorem Is.step (o : Ord c) {all out : List (L × List S)} {x : L × List S} (h : Is c key all out) : Is c key (all ++ [x]) (if x.2.isEmpty then out else ins c key out x) := by
  by_cases hx : x.2 = []
  · rw [hx]
    exact h.of_cat (fun lab => by rw [cat_snoc, hx]; simp)
  · rw [if_neg (by simpa using hx)]
    refine ⟨ins_sor o h.1, fun lab s => ?_⟩
    rw [ins_mem o h.1, cat_snoc]
    by_cases hl : lab = x.1
    · subst hl
      rw [if_pos ((o.zero _ _).2 rfl)]
      simp only [ne_eq, not_true, false_and, true_and, false_or, List.append_eq_nil_iff, hx, and_false, not_false_iff]
      by_cases hc : cat c all x.1 = []
      · rw [hc, List.nil_append]
        constructor
        · rintro (⟨s0, hs, _⟩ | ⟨_, e⟩)
          · exact absurd hc ((h.2 _ _).1 hs).1
          · exact e
        · intro e
          exact .inr ⟨fun s0 hs => ((h.2 _ _).1 hs).1 hc, e⟩
      · have hm : mrg key (mrg key (cat c all x.1) ++ x.2) = mrg key (cat c all x.1 ++ x.2) := mrg_congr fun t => by rw [lst_append, lst_mrg, lst_append]
        constructor
        · rintro (⟨s0, hs, e⟩ | ⟨hn, _⟩)
          · rw [e, ((h.2 _ _).1 hs).2, hm]
          · exact absurd ((h.2 _ _).2 ⟨hc, rfl⟩) (hn _)
        · intro e
          exact .inl ⟨_, (h.2 _ _).2 ⟨hc, rfl⟩, by rw [e, hm]⟩
    · rw [if_neg (fun e => hl ((o.zero _ _).1 e).symm), List.append_nil, h.2]
      simp [hl]
theorem Is.nil : Is c key [] [] := ⟨List.Pairwise.nil, fun lab s => by simp [cat]⟩
end
end Go.Proofs.Ytcgocdhffcnleaa.XSer
