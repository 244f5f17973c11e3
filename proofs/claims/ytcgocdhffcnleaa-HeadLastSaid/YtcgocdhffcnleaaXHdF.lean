/- A part of the proofs about the head: see the theorems' own lines. -/
import Derived.Test.YtcgocdhffcnleaaXHdE
namespace Go.Proofs.Ytcgocdhffcnleaa.PHead
open Go Go.RowKit Go.Proofs.YtcgocdhffcnleaaW.PrintWords Go.Proofs.YtcgocdhffcnleaaW.PrintLast Go.Proofs.YtcgocdhffcnleaaW.PrintMore Go.Proofs.Ytcgocdhffcnleaa.XB Go.Proofs.Ytcgocdhffcnleaa.PHeadPlays
set_option linter.unusedVariables false
set_option linter.unusedSimpArgs false
/-! ### the head, in plain lists -/
namespace Hd
def labsL (l : List S53) : List (List UInt8 × List UInt8) := l.map fun x => (x.f0.toList, x.f1.toList)
theorem labsL_inj : ∀ {a b : List S53}, labsL a = labsL b → a = b
  | [], [], _ => rfl
  | [], _ :: _, h => by simp [labsL] at h
  | _ :: _, [], h => by simp [labsL] at h
  | ⟨x0, x1⟩ :: a, ⟨y0, y1⟩ :: b, h => by
    obtain ⟨h1, h2⟩ := List.cons.inj h
    injection h1 with h3 h4
    obtain rfl : x0 = y0 := Hl.ba_ext h3
    obtain rfl : x1 = y1 := Hl.ba_ext h4
    rw [labsL_inj h2]
/-- Labels compared. -/
def lcl (a b : List S53) : Int := XLab.lc (labsL a) (labsL b)
theorem lcl_zero {a b : List S53} : lcl a b = 0 ↔ a = b := by
  unfold lcl
  rw [XLab.lc_zero]
  exact ⟨labsL_inj, fun h => by rw [h]⟩
theorem lcl_anti {a b : List S53} : lcl a b < 0 ↔ 0 < lcl b a := XLab.lc_anti _ _
theorem lcl_tr {a b c : List S53} (h1 : lcl a b < 0) (h2 : lcl b c < 0) : lcl a c < 0 := XLab.lc_tr _ _ _ h1 h2
theorem lcl_cases (a b : List S53) : a = b ∨ lcl a b < 0 ∨ lcl b a < 0 := by
  by_cases h : lcl a b = 0
  · exact .inl (lcl_zero.1 h)
  · by_cases h2 : lcl a b < 0
    · exact .inr (.inl h2)
    · exact .inr (.inr (lcl_anti.2 (by omega)))
theorem lcl_self (a : List S53) : lcl a a = 0 := lcl_zero.2 rfl
abbrev A := List (List S53 × List S44)
def find : A → List S53 → Option (List S44)
  | [], _ => none
  | p :: L, m => if lcl p.1 m = 0 then some p.2 else find L m
/-- A series' samples set, in the order of the labels. -/
def setA : A → List S53 → List S44 → A
  | [], m, xs => [(m, xs)]
  | p :: L, m, xs => if lcl p.1 m = 0 then (m, xs) :: L else if lcl m p.1 < 0 then (m, xs) :: p :: L else p :: setA L m xs
def putS : List S44 → S44 → List S44
  | [], s => [s]
  | x :: xs, s => if x.f0 < s.f0 then x :: putS xs s else if x.f0 = s.f0 then s :: xs else s :: x :: xs
def putL (L : A) (m : List S53) (s : S44) : A := setA L m (putS ((find L m).getD []) s)
def lastT (xs : List S44) : Int := (xs.getLast?.getD z44).f0
def maxT : Int := 9007199254740992
def rowF (win low : Int) (L : A) (r : S46) : Except Int A :=
  match Hl.mk r.f0 with
  | none => .error 20
  | some m =>
    if r.f1.f0 < -maxT ∨ maxT < r.f1.f0 then .error 21
    else if r.f1.f0 < low then .error 22
    else match find L m with
      | some xs => if r.f1.f0 < lastT xs - win then .error 22 else .ok (putL L m r.f1)
      | none => if 1000 ≤ L.length then .error 2 else .ok (putL L m r.f1)
def askF (win low : Int) : List S46 → A → Except Int A
  | [], L => .ok L
  | r :: rs, L => match rowF win low L r with
    | .error e => .error e
    | .ok L' => askF win low rs L'
/-- What Write answers, and what it leaves. -/
def writeF (win : Int) (L : A) (rows : List S46) : Int × A :=
  if rows.length = 0 then (1, L) else if 200 < rows.length then (2, L) else match askF win (-maxT) rows L with
    | .error e => (e, L)
    | .ok L' => (0, L')
def rising (xs : List S44) : Prop := xs.Pairwise fun a b => a.f0 < b.f0
def sorted (L : A) : Prop := L.Pairwise fun a b => lcl a.1 b.1 < 0
structure Ok (L : A) : Prop where
  sorted : sorted L
  made : ∀ p ∈ L, Hl.made p.1
  ne : ∀ p ∈ L, p.2 ≠ []
  rise : ∀ p ∈ L, rising p.2
  times : ∀ p ∈ L, ∀ x ∈ p.2, -maxT ≤ x.f0 ∧ x.f0 ≤ maxT
  len : L.length ≤ 1000
def cnt (L : A) : Nat := (L.map fun p => p.2.length).sum
theorem putS_mem {xs : List S44} {s x : S44} (h : x ∈ putS xs s) : x = s ∨ x ∈ xs := by
  induction xs with
  | nil => left; simpa [putS] using h
  | cons y xs ih =>
    rw [putS] at h
    split at h
    · rcases List.mem_cons.1 h with rfl | h
      · exact .inr List.mem_cons_self
      · rcases ih h with h | h
        · exact .inl h
        · exact .inr (List.mem_cons_of_mem _ h)
    · split at h
      · rcases List.mem_cons.1 h with rfl | h
        · exact .inl rfl
        · exact .inr (List.mem_cons_of_mem _ h)
      · rcases List.mem_cons.1 h with rfl | h
        · exact .inl rfl
        · exact .inr h
theorem putS_rising {xs : List S44} {s : S44} (h : rising xs) : rising (putS xs s) := by
  induction xs with
  | nil => exact List.pairwise_singleton _ _
  | cons y xs ih =>
    obtain ⟨h1, h2⟩ := List.pairwise_cons.1 h
    rw [putS]
    split
    · rename_i h3
      refine List.pairwise_cons.2 ⟨fun z hz => ?_, ih h2⟩
      rcases putS_mem hz with rfl | hz
      · exact h3
      · exact h1 z hz
    · split
      · rename_i h3 h4
        exact List.pairwise_cons.2 ⟨fun z hz => by have := h1 z hz; omega, h2⟩
      · rename_i h3 h4
        refine List.pairwise_cons.2 ⟨fun z hz => ?_, h⟩
        rcases List.mem_cons.1 hz with rfl | hz
        · omega
        · have := h1 z hz; omega
theorem putS_ne (xs : List S44) (s : S44) : putS xs s ≠ [] := by
  cases xs with
  | nil => simp [putS]
  | cons y xs =>
    rw [putS]
    split
    · simp
    · split <;> simp
theorem lastT_single (s : S44) : lastT [s] = s.f0 := rfl
theorem lastT_cons (x : S44) {xs : List S44} (h : xs ≠ []) : lastT (x :: xs) = lastT xs := by
  cases xs with
  | nil => exact absurd rfl h
  | cons y xs => unfold lastT; rw [List.getLast?_cons_cons]
theorem lastT_mem {xs : List S44} (h : xs ≠ []) : ∃ x ∈ xs, x.f0 = lastT xs := by
  refine ⟨xs.getLast h, List.getLast_mem h, ?_⟩
  unfold lastT
  rw [List.getLast?_eq_some_getLast h]
  rfl
theorem lastT_le {xs : List S44} (h : rising xs) : ∀ x ∈ xs, x.f0 ≤ lastT xs := by
  induction xs with
  | nil => intro x hx; cases hx
  | cons y xs ih =>
    intro x hx
    obtain ⟨h1, h2⟩ := List.pairwise_cons.1 h
    by_cases hne : xs = []
    · subst hne
      have : x = y := by simpa using hx
      rw [this, lastT_single]
      exact Int.le_refl _
    · rw [lastT_cons y hne]
      rcases List.mem_cons.1 hx with rfl | hx
      · obtain ⟨z, hz, he⟩ := lastT_mem hne
        have := h1 z hz
        omega
      · exact ih h2 x hx
theorem lastT_putS {xs : List S44} (h : rising xs) (s : S44) : lastT (putS xs s) = if xs = [] then s.f0 else max (lastT xs) s.f0 := by
  induction xs with
  | nil => rfl
  | cons y xs ih =>
    obtain ⟨h1, h2⟩ := List.pairwise_cons.1 h
    rw [if_neg (by simp), putS]
    split
    · rename_i h3
      rw [lastT_cons _ (putS_ne _ _), ih h2]
      by_cases hne : xs = []
      · subst hne
        rw [if_pos rfl, lastT_single]
        omega
      · rw [if_neg hne, lastT_cons _ hne]
    · split
      · rename_i h3 h4
        by_cases hne : xs = []
        · subst hne
          rw [lastT_single, lastT_single]
          omega
        · rw [lastT_cons _ hne, lastT_cons _ hne]
          obtain ⟨z, hz, he⟩ := lastT_mem hne
          have := h1 z hz
          omega
      · rename_i h3 h4
        rw [lastT_cons _ (by simp)]
        have := lastT_le h y List.mem_cons_self
        omega
theorem find_none {L : A} {m : List S53} : find L m = none ↔ ∀ p ∈ L, p.1 ≠ m := by
  induction L with
  | nil => simp [find]
  | cons p L ih =>
    rw [find]
    split
    · rename_i h
      simp only [reduceCtorEq, false_iff]
      intro h2
      exact h2 p List.mem_cons_self (lcl_zero.1 h)
    · rename_i h
      rw [ih]
      constructor
      · intro h2 q hq
        rcases List.mem_cons.1 hq with rfl | hq
        · exact fun e => h (lcl_zero.2 e)
        · exact h2 q hq
      · exact fun h2 q hq => h2 q (List.mem_cons_of_mem _ hq)
theorem find_mem {L : A} {m : List S53} {xs : List S44} (h : find L m = some xs) : (m, xs) ∈ L := by
  induction L with
  | nil => cases h
  | cons p L ih =>
    rw [find] at h
    split at h
    · rename_i h1
      have e := lcl_zero.1 h1
      have e2 := Option.some.inj h
      rw [← e, ← e2]
      exact List.mem_cons_self
    · exact List.mem_cons_of_mem _ (ih h)
theorem find_of_mem {L : A} (hs : sorted L) {p : List S53 × List S44} (h : p ∈ L) : find L p.1 = some p.2 := by
  induction L with
  | nil => cases h
  | cons q L ih =>
    obtain ⟨h1, h2⟩ := List.pairwise_cons.1 hs
    rw [find]
    rcases List.mem_cons.1 h with rfl | h
    · rw [if_pos (lcl_self _)]
    · rw [if_neg (by have := h1 p h; omega)]
      exact ih h2 h
theorem setA_mem {L : A} {m : List S53} {xs : List S44} {p : List S53 × List S44} (h : p ∈ setA L m xs) : p = (m, xs) ∨ p ∈ L := by
  induction L with
  | nil => left; simpa [setA] using h
  | cons q L ih =>
    rw [setA] at h
    split at h
    · rcases List.mem_cons.1 h with h | h
      · exact .inl h
      · exact .inr (List.mem_cons_of_mem _ h)
    · split at h
      · rcases List.mem_cons.1 h with h | h
        · exact .inl h
        · exact .inr h
      · rcases List.mem_cons.1 h with h | h
        · exact .inr (by rw [h]; exact List.mem_cons_self)
        · rcases ih h with h | h
          · exact .inl h
          · exact .inr (List.mem_cons_of_mem _ h)
theorem setA_sorted {L : A} {m : List S53} {xs : List S44} (h : sorted L) : sorted (setA L m xs) := by
  induction L with
  | nil => exact List.pairwise_singleton _ _
  | cons q L ih =>
    obtain ⟨h1, h2⟩ := List.pairwise_cons.1 h
    rw [setA]
    split
    · rename_i h3
      have e := lcl_zero.1 h3
      exact List.pairwise_cons.2 ⟨fun z hz => by rw [← e]; exact h1 z hz, h2⟩
    · split
      · rename_i h3 h4
        refine List.pairwise_cons.2 ⟨fun z hz => ?_, h⟩
        rcases List.mem_cons.1 hz with rfl | hz
        · exact h4
        · exact lcl_tr h4 (h1 z hz)
      · rename_i h3 h4
        refine List.pairwise_cons.2 ⟨fun z hz => ?_, ih h2⟩
        rcases setA_mem hz with rfl | hz
        · rcases lcl_cases q.1 m with e | e | e
          · exact absurd (lcl_zero.2 e) h3
          · exact e
          · exact absurd e h4
        · exact h1 z hz
theorem find_setA_same {L : A} {m : List S53} {xs : List S44} : find (setA L m xs) m = some xs := by
  induction L with
  | nil => rw [setA, find, if_pos (lcl_self _)]
  | cons q L ih =>
    rw [setA]
    split
    · rw [find, if_pos (lcl_self _)]
    · split
      · rw [find, if_pos (lcl_self _)]
      · rename_i h3 h4
        rw [find, if_neg h3]
        exact ih
theorem find_setA_other {L : A} {m k : List S53} {xs : List S44} (hne : k ≠ m) : find (setA L m xs) k = find L k := by
  have hmk : ¬ lcl m k = 0 := fun h => hne (lcl_zero.1 h).symm
  induction L with
  | nil => simp only [setA, find, if_neg hmk]
  | cons q L ih =>
    rw [setA]
    split
    · rename_i h3
      have e := lcl_zero.1 h3
      rw [find, if_neg hmk, find, if_neg (by rw [e]; exact hmk)]
    · split
      · rw [find, if_neg hmk]
      · rw [find, find, ih]
theorem setA_len {L : A} {m : List S53} {xs : List S44} (hs : sorted L) : (setA L m xs).length = if find L m = none then L.length + 1 else L.length := by
  induction L with
  | nil => simp [setA, find]
  | cons q L ih =>
    obtain ⟨h1, h2⟩ := List.pairwise_cons.1 hs
    rw [setA]
    split
    · rename_i h3
      rw [find, if_pos h3]
      simp
    · split
      · rename_i h3 h4
        have hn : find (q :: L) m = none := find_none.2 (fun p hp e => by
          rcases List.mem_cons.1 hp with rfl | hp
          · exact h3 (lcl_zero.2 e)
          · have := h1 p hp
            rw [e] at this
            have := lcl_tr h4 this
            rw [lcl_self] at this
            omega)
        rw [hn]
        simp
      · rename_i h3 h4
        rw [find, if_neg h3, List.length_cons, ih h2]
        split <;> simp
theorem putS_len (xs : List S44) (s : S44) : (putS xs s).length = xs.length + (if xs.any (fun x => x.f0 == s.f0) && (putS xs s).length == xs.length then 0 else (putS xs s).length - xs.length) ∧ xs.length ≤ (putS xs s).length ∧ (putS xs s).length ≤ xs.length + 1 := by
  have h : xs.length ≤ (putS xs s).length ∧ (putS xs s).length ≤ xs.length + 1 := by
    induction xs with
    | nil => simp [putS]
    | cons y xs ih =>
      rw [putS]
      split
      · simp only [List.length_cons]; omega
      · split <;> simp
  refine ⟨?_, h⟩
  split
  · rename_i h1
    simp only [Bool.and_eq_true, beq_iff_eq] at h1
    omega
  · omega
theorem putL_ok {L : A} {m : List S53} {s : S44} (h : Ok L) (hm : Hl.made m) (ht : -maxT ≤ s.f0 ∧ s.f0 ≤ maxT) (hl : find L m = none → L.length < 1000) : Ok (putL L m s) := by
  have hx : ∀ x ∈ (find L m).getD [], (rising ((find L m).getD [])) ∧ (-maxT ≤ x.f0 ∧ x.f0 ≤ maxT) := by
    cases hf : find L m with
    | none => intro x hx; cases hx
    | some xs => intro x hx; exact ⟨h.rise _ (find_mem hf), h.times _ (find_mem hf) x hx⟩
  have hr : rising ((find L m).getD []) := by
    cases hf : find L m with
    | none => exact List.Pairwise.nil
    | some xs => exact h.rise _ (find_mem hf)
  refine ⟨setA_sorted h.sorted, fun p hp => ?_, fun p hp => ?_, fun p hp => ?_, fun p hp => ?_, ?_⟩
  · rcases setA_mem hp with rfl | hp
    · exact hm
    · exact h.made p hp
  · rcases setA_mem hp with rfl | hp
    · exact putS_ne _ _
    · exact h.ne p hp
  · rcases setA_mem hp with rfl | hp
    · exact putS_rising hr
    · exact h.rise p hp
  · rcases setA_mem hp with rfl | hp
    · intro x hx'
      rcases putS_mem hx' with rfl | hx'
      · exact ht
      · exact (hx x hx').2
    · exact h.times p hp
  · unfold putL
    rw [setA_len h.sorted]
    have := h.len
    split
    · rename_i h1; have := hl h1; omega
    · omega
theorem rowF_ok {win low : Int} {L L' : A} {r : S46} (h : Ok L) (hr : rowF win low L r = .ok L') : Ok L' ∧ ∃ m, Hl.mk r.f0 = some m ∧ L' = putL L m r.f1 ∧ (-maxT ≤ r.f1.f0 ∧ r.f1.f0 ≤ maxT) ∧ (find L m = none → L.length < 1000) := by
  unfold rowF at hr
  cases hm : Hl.mk r.f0 with
  | none => rw [hm] at hr; cases hr
  | some m =>
    rw [hm] at hr
    simp only at hr
    split at hr
    · cases hr
    · rename_i h1
      split at hr
      · cases hr
      · have ht : -maxT ≤ r.f1.f0 ∧ r.f1.f0 ≤ maxT := by omega
        cases hf : find L m with
        | none =>
          rw [hf] at hr
          simp only at hr
          split at hr
          · cases hr
          · rename_i h3
            injection hr with hr
            subst hr
            exact ⟨putL_ok h (Hl.mk_made hm).1 ht (fun _ => by omega), m, rfl, rfl, ht, fun _ => by omega⟩
        | some xs =>
          rw [hf] at hr
          simp only at hr
          split at hr
          · cases hr
          · injection hr with hr
            subst hr
            exact ⟨putL_ok h (Hl.mk_made hm).1 ht (fun h => by rw [hf] at h; cases h), m, rfl, rfl, ht, fun h => by rw [hf] at h; cases h⟩
end Hd
end Go.Proofs.Ytcgocdhffcnleaa.PHead
