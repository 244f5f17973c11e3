/- Parts of the proof of the law's row, put together: see the theorems' own lines. -/
import Derived.Sort.LotB
/- Lists put together by rising keys, of one key the last one: what is told of them, how a list that is sorted stably and a heap of heads come to it. Plain lists: no program in sight. -/
set_option linter.unusedVariables false
set_option linter.unusedSimpArgs false
set_option linter.unusedSectionVars false
namespace Go.Proofs.Ytcgocdhffcnleaa.XMg
open Go.Sort
section
variable {α : Type} (key : α → Int)
def put : List α → α → List α
  | [], s => [s]
  | x :: l, s => if key s < key x then s :: x :: l else if key s = key x then s :: l else x :: put l s
def Ris (l : List α) : Prop := l.Pairwise fun x y => key x < key y
def look (l : List α) (t : Int) : Option α := l.find? fun x => decide (key x = t)
def mrg (l : List α) : List α := l.foldl (put key) []
def lst : List α → Int → Option α
  | [], _ => none
  | x :: l, t => (lst l t).or (if key x = t then some x else none)
def dd : List α → List α
  | [] => []
  | [x] => [x]
  | x :: y :: l => if key x = key y then dd (y :: l) else x :: dd (y :: l)
variable {key : α → Int}
theorem look_cons (x : α) (l : List α) (t : Int) : look key (x :: l) t = if key x = t then some x else look key l t := by
  unfold look
  rw [List.find?_cons]
  by_cases h : key x = t
  · simp [h]
  · simp [h]
theorem look_mem {l : List α} {t : Int} {x : α} (h : look key l t = some x) : x ∈ l ∧ key x = t := by
  unfold look at h
  exact ⟨List.mem_of_find?_eq_some h, by simpa using List.find?_some h⟩
theorem look_none {l : List α} {t : Int} (h : ∀ x ∈ l, key x ≠ t) : look key l t = none := by
  unfold look
  rw [List.find?_eq_none]
  intro x hx
  simpa using h x hx
theorem ris_look {l : List α} (hl : Ris key l) {x : α} (hx : x ∈ l) : look key l (key x) = some x := by
  induction l with
  | nil => cases hx
  | cons y l ih =>
    rw [look_cons]
    rcases List.mem_cons.1 hx with rfl | hx
    · rw [if_pos rfl]
    · have h1 := (List.pairwise_cons.1 hl).1 x hx
      rw [if_neg (by omega)]
      exact ih (List.pairwise_cons.1 hl).2 hx
theorem mem_put {l : List α} {s x : α} (h : x ∈ put key l s) : x = s ∨ x ∈ l := by
  induction l with
  | nil => simpa [put] using h
  | cons y l ih =>
    simp only [put] at h
    split at h
    · simpa using h
    · split at h
      · rcases List.mem_cons.1 h with h | h
        · exact .inl h
        · exact .inr (List.mem_cons_of_mem _ h)
      · rcases List.mem_cons.1 h with h | h
        · exact .inr (h ▸ List.mem_cons_self)
        · rcases ih h with h | h
          · exact .inl h
          · exact .inr (List.mem_cons_of_mem _ h)
theorem put_ris {l : List α} (s : α) (h : Ris key l) : Ris key (put key l s) := by
  induction l with
  | nil => exact List.pairwise_singleton _ _
  | cons y l ih =>
    obtain ⟨h1, h2⟩ := List.pairwise_cons.1 h
    simp only [put]
    split
    · refine List.pairwise_cons.2 ⟨fun x hx => ?_, h⟩
      rcases List.mem_cons.1 hx with rfl | hx
      · assumption
      · have := h1 x hx
        omega
    · split
      · refine List.pairwise_cons.2 ⟨fun x hx => ?_, h2⟩
        have := h1 x hx
        omega
      · refine List.pairwise_cons.2 ⟨fun x hx => ?_, ih h2⟩
        rcases mem_put hx with rfl | hx
        · omega
        · exact h1 x hx
theorem look_put (l : List α) (s : α) (t : Int) : look key (put key l s) t = if key s = t then some s else look key l t := by
  induction l with
  | nil => simp only [put, look_cons]
  | cons y l ih =>
    simp only [put]
    split
    · rw [look_cons]
    · split
      · rename_i h1 h2
        rw [look_cons, look_cons]
        by_cases h : key s = t
        · rw [if_pos h, if_pos h]
        · rw [if_neg h, if_neg h, if_neg (by omega)]
      · rw [look_cons, look_cons, ih]
        by_cases h : key y = t
        · rw [if_pos h, if_pos h, if_neg (by omega)]
        · rw [if_neg h, if_neg h]
theorem put_len (l : List α) (s : α) : (put key l s).length ≤ l.length + 1 := by
  induction l with
  | nil => simp [put]
  | cons y l ih =>
    simp only [put]
    split
    · simp
    · split
      · simp
      · simp only [List.length_cons]; omega
theorem foldl_put : ∀ (l acc : List α), Ris key acc → Ris key (l.foldl (put key) acc) ∧ (∀ t, look key (l.foldl (put key) acc) t = (lst key l t).or (look key acc t)) ∧ (l.foldl (put key) acc).length ≤ acc.length + l.length
  | [], acc, h => ⟨h, fun t => by simp [lst], by simp⟩
  | x :: l, acc, h => by
    obtain ⟨h1, h2, h3⟩ := foldl_put l (put key acc x) (put_ris x h)
    refine ⟨h1, fun t => ?_, ?_⟩
    · rw [List.foldl_cons, h2, look_put]
      simp only [lst]
      cases lst key l t with
      | some y => rfl
      | none => by_cases hx : key x = t <;> simp [hx]
    · rw [List.foldl_cons, List.length_cons]
      have := put_len (key := key) acc x
      omega
theorem mrg_ris (l : List α) : Ris key (mrg key l) := (foldl_put l [] List.Pairwise.nil).1
theorem look_mrg (l : List α) (t : Int) : look key (mrg key l) t = lst key l t := by
  unfold mrg
  rw [(foldl_put l [] List.Pairwise.nil).2.1 t]
  simp [look]
theorem ris_ext : ∀ {l m : List α}, Ris key l → Ris key m → (∀ t, look key l t = look key m t) → l = m
  | [], [], _, _, _ => rfl
  | [], y :: m, _, hm, h => by
    have := h (key y)
    rw [ris_look hm List.mem_cons_self] at this
    cases this
  | x :: l, [], hl, _, h => by
    have := h (key x)
    rw [ris_look hl List.mem_cons_self] at this
    cases this
  | x :: l, y :: m, hl, hm, h => by
    obtain ⟨hl1, hl2⟩ := List.pairwise_cons.1 hl
    obtain ⟨hm1, hm2⟩ := List.pairwise_cons.1 hm
    have e1 := h (key x)
    have e2 := h (key y)
    rw [ris_look hl List.mem_cons_self] at e1
    rw [ris_look hm List.mem_cons_self] at e2
    have m1 := (look_mem e1.symm).1
    have m2 := (look_mem e2).1
    have hxy : x = y := by
      rcases List.mem_cons.1 m1 with h1 | h1
      · exact h1
      rcases List.mem_cons.1 m2 with h2 | h2
      · exact h2.symm
      have a := hm1 x h1
      have b := hl1 y h2
      omega
    subst hxy
    congr 1
    refine ris_ext hl2 hm2 fun t => ?_
    have ht := h t
    rw [look_cons, look_cons] at ht
    by_cases hk : key x = t
    · rw [look_none (fun z hz => by have := hl1 z hz; omega), look_none (fun z hz => by have := hm1 z hz; omega)]
    · rwa [if_neg hk, if_neg hk] at ht
theorem lst_append (a b : List α) (t : Int) : lst key (a ++ b) t = (lst key b t).or (lst key a t) := by
  induction a with
  | nil => simp [lst]
  | cons x a ih =>
    rw [List.cons_append]
    simp only [lst]
    rw [ih]
    cases lst key b t <;> rfl
theorem lst_some {l : List α} {t : Int} {x : α} (h : lst key l t = some x) : x ∈ l ∧ key x = t := by
  induction l with
  | nil => cases h
  | cons y l ih =>
    simp only [lst] at h
    cases hl : lst key l t with
    | some z =>
      rw [hl] at h
      have := ih (by rw [hl]; exact h)
      exact ⟨List.mem_cons_of_mem _ this.1, this.2⟩
    | none =>
      rw [hl, Option.none_or] at h
      split at h
      · rename_i hy
        injection h with h
        subst h
        exact ⟨List.mem_cons_self, hy⟩
      · cases h
theorem lst_of_none {l : List α} {t : Int} (h : lst key l t = none) : ∀ x ∈ l, key x ≠ t := by
  induction l with
  | nil => intro x hx; cases hx
  | cons y l ih =>
    simp only [lst] at h
    rw [Option.or_eq_none_iff] at h
    intro x hx
    rcases List.mem_cons.1 hx with rfl | hx
    · intro e
      rw [if_pos e] at h
      cases h.2
    · exact ih h.1 x hx
theorem lst_ris {l : List α} (hl : Ris key l) (t : Int) : lst key l t = look key l t := by
  cases h : lst key l t with
  | none => exact (look_none (lst_of_none h)).symm
  | some x =>
    obtain ⟨h1, h2⟩ := lst_some h
    rw [← h2]
    exact (ris_look hl h1).symm
theorem mrg_congr {l m : List α} (h : ∀ t, lst key l t = lst key m t) : mrg key l = mrg key m := ris_ext (mrg_ris l) (mrg_ris m) fun t => by rw [look_mrg, look_mrg, h]
theorem lst_mrg (l : List α) (t : Int) : lst key (mrg key l) t = lst key l t := by rw [lst_ris (mrg_ris l), look_mrg]
/-! ### of one key the last one -/
end
/-! ### a list that is sorted stably: elements with tags -/
section
variable {α : Type} {key : α → Int}
def tagged (l : List α) : List (α × Nat) := l.zipIdx
end
/-! ### heads -/
section
variable {α : Type} {key : α → Int}
/-- A head: which list it is of, and what is left of that. -/
abbrev Hd (α : Type) := Int × List α
def Best (key : α → Int) (H : List (Hd α)) (t : Int) (x : α) : Prop := ∃ h ∈ H, x ∈ h.2 ∧ key x = t ∧ ∀ h' ∈ H, ∀ y ∈ h'.2, key y = t → h'.1 ≤ h.1
def Nil (key : α → Int) (H : List (Hd α)) (t : Int) : Prop := ∀ h ∈ H, ∀ y ∈ h.2, key y ≠ t
structure Inv (key : α → Int) (target out : List α) (H : List (Hd α)) : Prop where
  ris : Ris key out
  rows : ∀ h ∈ H, Ris key h.2 ∧ h.2 ≠ []
  nodup : (H.map (·.1)).Nodup
  above : ∀ o ∈ out, ∀ h ∈ H, ∀ x ∈ h.2, key o ≤ key x
  says : ∀ t x, look key target t = some x ↔ Best key H t x ∨ (Nil key H t ∧ look key out t = some x)
  len : out.length + (H.map fun h => h.2.length).sum ≤ target.length + (H.map fun h => h.2.length).sum + out.length
theorem Inv.perm {target out : List α} {H H' : List (Hd α)} (h : Inv key target out H) (hp : H'.Perm H) : Inv key target out H' where
  ris := h.ris
  rows := fun x hx => h.rows x (hp.mem_iff.1 hx)
  nodup := (hp.map _).nodup_iff.2 h.nodup
  above := fun o ho x hx => h.above o ho x (hp.mem_iff.1 hx)
  says := fun t x => by
    have hb : Best key H' t x ↔ Best key H t x := ⟨fun ⟨a, ha, h1, h2, h3⟩ => ⟨a, hp.mem_iff.1 ha, h1, h2, fun b hb => h3 b (hp.mem_iff.2 hb)⟩, fun ⟨a, ha, h1, h2, h3⟩ => ⟨a, hp.mem_iff.2 ha, h1, h2, fun b hb => h3 b (hp.mem_iff.1 hb)⟩⟩
    have hn : Nil key H' t ↔ Nil key H t := ⟨fun hn a ha => hn a (hp.mem_iff.2 ha), fun hn a ha => hn a (hp.mem_iff.1 ha)⟩
    rw [h.says, hb, hn]
  len := by omega
theorem Inv.done {target out : List α} (ht : Ris key target) (h : Inv key target out []) : out = target := by
  refine ris_ext h.ris ht fun t => ?_
  have hn : Nil key ([] : List (Hd α)) t := fun a ha => by cases ha
  have hb : ∀ x, ¬ Best key ([] : List (Hd α)) t x := fun x ⟨a, ha, _⟩ => by cases ha
  cases ho : look key out t with
  | some x => exact ((h.says t x).2 (.inr ⟨hn, ho⟩)).symm
  | none =>
    cases hx : look key target t with
    | none => rfl
    | some x =>
      rcases (h.says t x).1 hx with h1 | ⟨_, h1⟩
      · exact absurd h1 (hb x)
      · rw [ho] at h1; cases h1
/-- What a sample makes of what is put together so far. -/
def push (key : α → Int) (out : List α) (s : α) : List α := if (out.getLast?.map key) = some (key s) then out.dropLast ++ [s] else out ++ [s]
theorem push_spec {out : List α} {s : α} (hr : Ris key out) (ha : ∀ o ∈ out, key o ≤ key s) : Ris key (push key out s) ∧ (∀ t, look key (push key out s) t = if key s = t then some s else look key out t) ∧ (∀ o ∈ push key out s, key o ≤ key s) := by
  have app : ∀ (l : List α) (x : α) (t : Int), look key (l ++ [x]) t = (look key l t).or (if key x = t then some x else none) := by
    intro l x t
    unfold look
    rw [List.find?_append]
    congr 1
    by_cases h : key x = t <;> simp [h]
  have end_ : ∀ (l : List α), Ris key l → (∀ o ∈ l, key o < key s) → Ris key (l ++ [s]) := by
    intro l hl h
    refine List.pairwise_append.2 ⟨hl, List.pairwise_singleton _ _, fun a ha b hb => ?_⟩
    have hb' : b = s := by simpa using hb
    exact hb' ▸ h a ha
  unfold push
  rcases List.eq_nil_or_concat out with rfl | ⟨l, y, rfl⟩
  · rw [if_neg (by simp)]
    refine ⟨List.pairwise_singleton _ _, fun t => ?_, fun o ho => ?_⟩
    · rw [app]; simp [look]
    · obtain rfl : o = s := by simpa using ho
      omega
  · simp only [List.concat_eq_append] at *
    obtain ⟨hl, _, hly⟩ := List.pairwise_append.1 hr
    have hy := ha y (by simp)
    have hlt : ∀ o ∈ l, key o < key y := fun o ho => hly o ho y (by simp)
    simp only [List.getLast?_append, List.getLast?_singleton, Option.some_or, Option.map_some, Option.some.injEq]
    by_cases hk : key y = key s
    · rw [if_pos hk, List.dropLast_concat]
      refine ⟨end_ l hl (fun o ho => by have := hlt o ho; omega), fun t => ?_, fun o ho => ?_⟩
      · rw [app, app]
        by_cases ht : key s = t
        · rw [if_pos ht, if_pos ht, look_none (fun x hx => by have := hlt x hx; omega)]
          rfl
        · rw [if_neg ht, if_neg ht, if_neg (by omega)]
      · rcases List.mem_append.1 ho with ho | ho
        · have := hlt o ho; omega
        · obtain rfl : o = s := by simpa using ho
          omega
    · rw [if_neg hk]
      refine ⟨end_ _ hr (fun o ho => ?_), fun t => ?_, fun o ho => ?_⟩
      · rcases List.mem_append.1 ho with ho | ho
        · have := hlt o ho; omega
        · obtain rfl : o = y := by simpa using ho
          omega
      · rw [app (l ++ [y])]
        by_cases ht : key s = t
        · rw [if_pos ht, if_pos ht, look_none (fun x hx => ?_)]
          · rfl
          · rcases List.mem_append.1 hx with hx | hx
            · have := hlt x hx; omega
            · obtain rfl : x = y := by simpa using hx
              omega
        · rw [if_neg ht, if_neg ht]
          cases look key (l ++ [y]) t <;> rfl
      · rcases List.mem_append.1 ho with ho | ho
        · exact ha o ho
        · obtain rfl : o = s := by simpa using ho
          omega
/-- One round: the least head gives its first sample. -/
theorem Inv.round {target out : List α} {f : Int} {s : α} {tl : List α} {H H' : List (Hd α)} (h : Inv key target out ((f, s :: tl) :: H))
    (hmin : ∀ g ∈ H, ∀ x ∈ g.2, key s < key x ∨ (key s = key x ∧ f < g.1)) (hH : H' = if tl = [] then H else (f, tl) :: H) : Inv key target (push key out s) H' := by
  obtain ⟨p1, p2, p3⟩ := push_spec (s := s) h.ris (fun o ho => h.above o ho _ List.mem_cons_self s List.mem_cons_self)
  have hr0 := (h.rows _ List.mem_cons_self).1
  obtain ⟨hr1, hr2⟩ := List.pairwise_cons.1 hr0
  -- what the rows of H' hold
  have hin : ∀ g x, (g ∈ H' ∧ x ∈ g.2) → ((g ∈ H ∧ x ∈ g.2) ∨ (g = (f, tl) ∧ x ∈ tl)) := by
    rintro g x ⟨hg, hx⟩
    rw [hH] at hg
    split at hg
    · exact .inl ⟨hg, hx⟩
    · rcases List.mem_cons.1 hg with rfl | hg
      · exact .inr ⟨rfl, hx⟩
      · exact .inl ⟨hg, hx⟩
  have hinH : ∀ g, g ∈ H → g ∈ H' := fun g hg => by rw [hH]; split; exact hg; exact List.mem_cons_of_mem _ hg
  have hintl : tl ≠ [] → (f, tl) ∈ H' := fun ht => by rw [hH, if_neg ht]; exact List.mem_cons_self
  have hge : ∀ g ∈ H', ∀ x ∈ g.2, key s ≤ key x := fun g hg x hx => by
    rcases hin g x ⟨hg, hx⟩ with ⟨h1, h2⟩ | ⟨_, h2⟩
    · rcases hmin g h1 x h2 with h3 | h3 <;> omega
    · have := hr1 x h2; omega
  refine ⟨p1, fun g hg => ?_, ?_, fun o ho g hg x hx => ?_, fun t x => ?_, by omega⟩
  · rw [hH] at hg
    split at hg
    · exact h.rows g (List.mem_cons_of_mem _ hg)
    · rename_i ht
      rcases List.mem_cons.1 hg with rfl | hg
      · exact ⟨hr2, ht⟩
      · exact h.rows g (List.mem_cons_of_mem _ hg)
  · have hn := h.nodup
    rw [hH]
    rw [List.map_cons] at hn
    split
    · exact (List.nodup_cons.1 hn).2
    · exact hn
  · have := p3 o ho
    have := hge g hg x hx
    omega
  · rw [h.says]
    by_cases hts : key s = t
    · -- the key that is given
      rw [p2, if_pos hts]
      have nin : ∀ y ∈ tl, key y ≠ t := fun y hy => by have := hr1 y hy; omega
      constructor
      · rintro (⟨g, hg, hx, hk, hb⟩ | ⟨hn, _⟩)
        · rcases List.mem_cons.1 hg with rfl | hg
          · rcases List.mem_cons.1 hx with rfl | hx
            · refine .inr ⟨fun g' hg' y hy hyk => ?_, rfl⟩
              rcases hin g' y ⟨hg', hy⟩ with ⟨h1, h2⟩ | ⟨_, h2⟩
              · have a := hb g' (List.mem_cons_of_mem _ h1) y h2 hyk
                rcases hmin g' h1 y h2 with h3 | h3
                · omega
                · exact absurd a (by have := h3.2; omega)
              · exact nin y h2 hyk
            · exact absurd hk (nin x hx)
          · refine .inl ⟨g, hinH g hg, hx, hk, fun g' hg' y hy hyk => ?_⟩
            rcases hin g' y ⟨hg', hy⟩ with ⟨h1, h2⟩ | ⟨_, h2⟩
            · exact hb g' (List.mem_cons_of_mem _ h1) y h2 hyk
            · exact absurd hyk (nin y h2)
        · exact absurd hts (hn _ List.mem_cons_self s List.mem_cons_self)
      · rintro (⟨g, hg, hx, hk, hb⟩ | ⟨hn, he⟩)
        · rcases hin g x ⟨hg, hx⟩ with ⟨h1, h2⟩ | ⟨_, h2⟩
          · refine .inl ⟨g, List.mem_cons_of_mem _ h1, h2, hk, fun g' hg' y hy hyk => ?_⟩
            rcases List.mem_cons.1 hg' with rfl | hg'
            · rcases hmin g h1 x h2 with h3 | h3
              · omega
              · exact Int.le_of_lt h3.2
            · exact hb g' (hinH g' hg') y hy hyk
          · exact absurd hk (nin x h2)
        · obtain rfl : s = x := by injection he
          refine .inl ⟨_, List.mem_cons_self, List.mem_cons_self, hts, fun g' hg' y hy hyk => ?_⟩
          rcases List.mem_cons.1 hg' with rfl | hg'
          · exact Int.le_refl _
          · exact absurd hyk (hn g' (hinH g' hg') y hy)
    · rw [p2, if_neg hts]
      have eqv : ∀ y, key y = t → (y ∈ s :: tl ↔ y ∈ tl) := fun y hy => ⟨fun h => by rcases List.mem_cons.1 h with rfl | h; exact absurd hy hts; exact h, List.mem_cons_of_mem _⟩
      have tlin : ∀ y, y ∈ tl → (f, tl) ∈ H' := fun y hy => hintl (List.ne_nil_of_mem hy)
      have hn : Nil key ((f, s :: tl) :: H) t ↔ Nil key H' t := by
        constructor
        · intro hn g hg y hy hyk
          rcases hin g y ⟨hg, hy⟩ with ⟨h1, h2⟩ | ⟨_, h2⟩
          · exact hn g (List.mem_cons_of_mem _ h1) y h2 hyk
          · exact hn _ List.mem_cons_self y (List.mem_cons_of_mem _ h2) hyk
        · intro hn g hg y hy hyk
          rcases List.mem_cons.1 hg with rfl | hg
          · have h2 := (eqv y hyk).1 hy
            exact hn _ (tlin y h2) y h2 hyk
          · exact hn g (hinH g hg) y hy hyk
      have hb : Best key ((f, s :: tl) :: H) t x ↔ Best key H' t x := by
        constructor
        · rintro ⟨g, hg, hx, hk, hb⟩
          have hall : ∀ g' ∈ H', ∀ y ∈ g'.2, key y = t → g'.1 ≤ g.1 := fun g' hg' y hy hyk => by
            rcases hin g' y ⟨hg', hy⟩ with ⟨h1, h2⟩ | ⟨h1, h2⟩
            · exact hb g' (List.mem_cons_of_mem _ h1) y h2 hyk
            · subst h1
              exact hb (f, s :: tl) List.mem_cons_self y (List.mem_cons_of_mem _ h2) hyk
          rcases List.mem_cons.1 hg with rfl | hg
          · have h2 := (eqv x hk).1 hx
            exact ⟨_, tlin x h2, h2, hk, hall⟩
          · exact ⟨g, hinH g hg, hx, hk, hall⟩
        · rintro ⟨g, hg, hx, hk, hb⟩
          have hall : ∀ g' ∈ (f, s :: tl) :: H, ∀ y ∈ g'.2, key y = t → g'.1 ≤ g.1 := fun g' hg' y hy hyk => by
            rcases List.mem_cons.1 hg' with rfl | hg'
            · have h2 := (eqv y hyk).1 hy
              exact hb (f, tl) (tlin y h2) y h2 hyk
            · exact hb g' (hinH g' hg') y hy hyk
          rcases hin g x ⟨hg, hx⟩ with ⟨h1, h2⟩ | ⟨h1, h2⟩
          · exact ⟨g, List.mem_cons_of_mem _ h1, h2, hk, hall⟩
          · subst h1
            exact ⟨_, List.mem_cons_self, List.mem_cons_of_mem _ h2, hk, hall⟩
      rw [hn, hb]
/-- The heads of lists that came one behind the other. -/
def heads (key : α → Int) : Int → List (List α) → List (Hd α)
  | _, [] => []
  | i, l :: ls => if mrg key l = [] then heads key (i + 1) ls else (i, mrg key l) :: heads key (i + 1) ls
theorem heads_ge : ∀ (ls : List (List α)) (i : Int), ∀ h ∈ heads key i ls, i ≤ h.1 ∧ Ris key h.2 ∧ h.2 ≠ []
  | [], i, h, hh => by cases hh
  | l :: ls, i, h, hh => by
    simp only [heads] at hh
    split at hh
    · have := heads_ge ls (i + 1) h hh
      exact ⟨by omega, this.2⟩
    · rename_i hne
      rcases List.mem_cons.1 hh with rfl | hh
      · exact ⟨Int.le_refl _, mrg_ris l, hne⟩
      · have := heads_ge ls (i + 1) h hh
        exact ⟨by omega, this.2⟩
theorem heads_nodup : ∀ (ls : List (List α)) (i : Int), ((heads key i ls).map (·.1)).Nodup
  | [], i => List.Pairwise.nil
  | l :: ls, i => by
    simp only [heads]
    split
    · exact heads_nodup ls (i + 1)
    · rw [List.map_cons]
      refine List.nodup_cons.2 ⟨fun hm => ?_, heads_nodup ls (i + 1)⟩
      obtain ⟨h, hh, e⟩ := List.mem_map.1 hm
      have := (heads_ge ls (i + 1) h hh).1
      omega
theorem heads_best : ∀ (ls : List (List α)) (i : Int) (t : Int) (x : α), lst key ls.flatten t = some x ↔ Best key (heads key i ls) t x
  | [], i, t, x => Iff.intro (fun h => by cases h) (fun h => by obtain ⟨g, hg, _⟩ := h; cases hg)
  | l :: ls, i, t, x => by
    have ih := heads_best ls (i + 1) t
    rw [List.flatten_cons, lst_append]
    have hge := heads_ge (key := key) ls (i + 1)
    have no : (∀ y, ¬ Best key (heads key (i + 1) ls) t y) → ∀ g ∈ heads key (i + 1) ls, ∀ y ∈ g.2, key y ≠ t := by
      intro hno g hg y hy hyk
      have h1 : lst key ls.flatten t = none := by
        cases h : lst key ls.flatten t with
        | none => rfl
        | some z => exact absurd ((ih z).1 h) (hno z)
      -- the head that bears the key and has the greatest number
      have key1 : ∀ (G : List (Hd α)), (∃ g ∈ G, ∃ y ∈ g.2, key y = t) → ∃ z, Best key G t z := by
        intro G
        induction G with
        | nil => rintro ⟨g, hg, _⟩; cases hg
        | cons a G ihG =>
          rintro ⟨g, hg, y, hy, hyk⟩
          by_cases hG : ∃ g ∈ G, ∃ y ∈ g.2, key y = t
          · obtain ⟨z, g1, hg1, hz, hzk, hb⟩ := ihG hG
            by_cases ha : (∃ y ∈ a.2, key y = t) ∧ g1.1 ≤ a.1
            · obtain ⟨⟨y1, hy1, hyk1⟩, hle⟩ := ha
              refine ⟨y1, a, List.mem_cons_self, hy1, hyk1, fun g' hg' y' hy' hyk' => ?_⟩
              rcases List.mem_cons.1 hg' with rfl | hg'
              · exact Int.le_refl _
              · have := hb g' hg' y' hy' hyk'; omega
            · refine ⟨z, g1, List.mem_cons_of_mem _ hg1, hz, hzk, fun g' hg' y' hy' hyk' => ?_⟩
              rcases List.mem_cons.1 hg' with rfl | hg'
              · by_cases hle : g1.1 ≤ g'.1
                · exact absurd ⟨⟨y', hy', hyk'⟩, hle⟩ ha
                · omega
              · exact hb g' hg' y' hy' hyk'
          · rcases List.mem_cons.1 hg with rfl | hg
            · refine ⟨y, g, List.mem_cons_self, hy, hyk, fun g' hg' y' hy' hyk' => ?_⟩
              rcases List.mem_cons.1 hg' with rfl | hg'
              · exact Int.le_refl _
              · exact absurd ⟨g', hg', y', hy', hyk'⟩ hG
            · exact absurd ⟨g, hg, y, hy, hyk⟩ hG
      obtain ⟨z, hz⟩ := key1 _ ⟨g, hg, y, hy, hyk⟩
      exact hno z hz
    simp only [heads]
    cases h : lst key ls.flatten t with
    | some z =>
      have hz := (ih z).1 h
      rw [Option.some_or]
      have inj : ∀ y, Best key (heads key (i + 1) ls) t y → y = z := fun y hy => by have := (ih y).2 hy; rw [h] at this; injection this with this; exact this.symm
      split
      · constructor
        · intro e
          injection e with e
          rw [← e]; exact hz
        · intro hy
          rw [inj x hy]
      · constructor
        · intro e
          injection e with e
          subst e
          obtain ⟨g, hg, hx, hk, hb⟩ := hz
          refine ⟨g, List.mem_cons_of_mem _ hg, hx, hk, fun g' hg' y hy hyk => ?_⟩
          rcases List.mem_cons.1 hg' with rfl | hg'
          · have := (hge g hg).1
            show i ≤ g.1
            omega
          · exact hb g' hg' y hy hyk
        · rintro ⟨g, hg, hx, hk, hb⟩
          rcases List.mem_cons.1 hg with rfl | hg
          · obtain ⟨g2, hg2, hz2, hk2, _⟩ := hz
            have a := hb g2 (List.mem_cons_of_mem _ hg2) z hz2 hk2
            have b := (hge g2 hg2).1
            exact absurd a (by show ¬ g2.1 ≤ i; omega)
          · rw [inj x ⟨g, hg, hx, hk, fun g' hg' => hb g' (List.mem_cons_of_mem _ hg')⟩]
    | none =>
      rw [Option.none_or]
      have hno := no (fun y hy => by have := (ih y).2 hy; rw [h] at this; cases this)
      split
      · rename_i he
        constructor
        · intro hl
          have : look key (mrg key l) t = some x := by rw [look_mrg, hl]
          rw [he] at this
          cases this
        · rintro ⟨g, hg, hx, hk, _⟩
          exact absurd hk (hno g hg x hx)
      · constructor
        · intro hl
          have h1 : look key (mrg key l) t = some x := by rw [look_mrg, hl]
          obtain ⟨h2, h3⟩ := look_mem h1
          refine ⟨(i, mrg key l), List.mem_cons_self, h2, h3, fun g' hg' y hy hyk => ?_⟩
          rcases List.mem_cons.1 hg' with rfl | hg'
          · exact Int.le_refl _
          · exact absurd hyk (hno g' hg' y hy)
        · rintro ⟨g, hg, hx, hk, _⟩
          rcases List.mem_cons.1 hg with rfl | hg
          · rw [← look_mrg, ← hk]
            exact ris_look (mrg_ris l) hx
          · exact absurd hk (hno g hg x hx)
theorem Inv.start (ls : List (List α)) : Inv key (mrg key ls.flatten) [] (heads key 0 ls) where
  ris := List.Pairwise.nil
  rows := fun h hh => (heads_ge ls 0 h hh).2
  nodup := heads_nodup ls 0
  above := fun o ho => by cases ho
  says := fun t x => by
    rw [look_mrg, heads_best ls 0]
    constructor
    · exact .inl
    · rintro (h | ⟨_, h⟩)
      · exact h
      · cases h
  len := by omega
end
/-! ### heaps -/
section
variable {β : Type} [Inhabited β] {lt : β → β → Bool}
def Hp (lt : β → β → Bool) (l : List β) : Prop := ∀ i, i < l.length → Ok lt 0 l.length l.toArray i
theorem bang_left {l r : List β} {i : Nat} (hi : i < l.length) : (l ++ r).toArray[i]! = l.toArray[i]! := by
  rw [getElem!_pos _ i (by simp; omega), getElem!_pos _ i (by simpa using hi)]
  simp [hi]
theorem Hp.sub {l r : List β} (h : Hp lt (l ++ r)) : Hp lt l := by
  intro i hi k hk hkh
  have := h i (by rw [List.length_append]; omega) k hk (by rw [List.length_append]; omega)
  simp only [Nat.zero_add] at this ⊢
  rw [bang_left hi, bang_left hkh] at this
  exact this
end
end Go.Proofs.Ytcgocdhffcnleaa.XMg
