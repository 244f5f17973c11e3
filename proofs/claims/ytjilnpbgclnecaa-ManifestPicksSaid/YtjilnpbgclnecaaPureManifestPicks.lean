/- Which blocks of every manifest the program's manifest.Pick tells to be put together next is what the document's reference tells (statement ManifestPicks); no condition. -/
import Derived.Test.YtjilnpbgclnecaaPManifestPicksx5
import Derived.Test.YtjilnpbgclnecaaXPure
set_option linter.unusedVariables false
set_option linter.unusedSimpArgs false
namespace Go.Proofs.Ytjilnpbgclnecaa.Pure
open Go Go.RowKit Go.Proofs.Ytjilnpbgclnecaa.PManifestPicks Go.Proofs.Ytjilnpbgclnecaa.XP Go.Proofs.YtjilnpbgclnecaaW.PrintWords Go.Proofs.YtjilnpbgclnecaaW.PrintLast Go.Proofs.YtjilnpbgclnecaaW.PrintMore

/-! ### two rows that are one -/
theorem rd_nat {l : List Int} {i : Nat} (h : i < l.length) : rd l (i : Int) = l[i] := by
  unfold rd
  rw [Int.toNat_natCast, List.getD_eq_getElem?_getD, List.getElem?_eq_getElem h]; rfl
theorem wi1 {i n : Nat} (h : i < n) (hn : n ≤ 140737488355328) : wrap64 ((i : Int) + 1) = ((i + 1 : Nat) : Int) := by rw [w64 (by omega) (by omega)]; omega
theorem same_l0 (a b : List Int) (hab : a.length = b.length) (hn : a.length ≤ 140737488355328) : ∀ (d i : Nat), i + d = a.length → Ev (fun k => lysimeterlaw6_SameInts.l0 k a b (i : Int)) (decide (a.drop i = b.drop i)) := by
  intro d
  induction d with
  | zero =>
    intro i hi
    rw [List.drop_of_length_le (by omega), List.drop_of_length_le (by omega)]
    refine Ev.step (f := fun _ => some true) (fun k => ?_) (ev_eq (Ev.now _) (by simp))
    simp only [lysimeterlaw6_SameInts.l0]
    rw [if_neg (by omega)]
  | succ d ih =>
    intro i hi
    have hlt : i < a.length := by omega
    have hlt' : i < b.length := by omega
    rw [List.drop_eq_getElem_cons hlt, List.drop_eq_getElem_cons hlt']
    by_cases c1 : a[i] = b[i]
    · refine Ev.step (f := fun k => lysimeterlaw6_SameInts.l0 k a b ((i + 1 : Nat) : Int)) (fun k => ?_) (ev_eq (ih (i + 1) (by omega)) (by rw [decide_eq_decide, List.cons.injEq]; exact ⟨fun e => ⟨c1, e⟩, fun e => e.2⟩))
      simp only [lysimeterlaw6_SameInts.l0]
      rw [if_pos (by omega), if_pos (by omega), if_pos (by omega), rd_nat hlt, rd_nat hlt', if_pos c1, wi1 hlt hn]
    · refine Ev.step (f := fun _ => some false) (fun k => ?_) (ev_eq (Ev.now _) (by rw [decide_eq_false]; intro e; exact c1 (List.cons.inj e).1))
      simp only [lysimeterlaw6_SameInts.l0]
      rw [if_pos (by omega), if_pos (by omega), if_pos (by omega), rd_nat hlt, rd_nat hlt', if_neg c1]
theorem same_ev {a b : List Int} (hn : a.length ≤ 140737488355328) : Ev (fun k => lysimeterlaw6_SameInts.f k a b) (decide (a = b)) := by
  unfold lysimeterlaw6_SameInts.f
  by_cases h : a.length = b.length
  · exact ev_if_pos (by omega) (same_l0 a b h hn a.length 0 (by omega))
  · exact ev_if_neg (by omega) (ev_eq (Ev.now _) (by rw [decide_eq_false]; intro e; exact h (congrArg List.length e)))
theorem same_self {a : List Int} (hn : a.length ≤ 140737488355328) : Ev (fun k => lysimeterlaw6_SameInts.f k a a) true := ev_eq (same_ev hn) (by simp)
/-! ### what a manifest is asked -/
theorem rdT_nat {l : List S82} {i : Nat} (h : i < l.length) : rd_T82 l (i : Int) = l[i] := by
  unfold rd_T82
  rw [Int.toNat_natCast, List.getD_eq_getElem?_getD, List.getElem?_eq_getElem h]; rfl
def okB (nx last : Int) (x : S82) : Bool := decide (1 ≤ x.f0) && (decide (last < x.f0) && (decide (x.f0 < nx) && (decide (0 ≤ x.f1) && decide (x.f1 ≤ 20))))
def ids (nx : Int) : Int → List S82 → Bool
  | _, [] => true
  | last, x :: l => okB nx last x && ids nx x.f0 l
def timedB (a : Int) : Bool := decide (-9007199254740992 ≤ a) && decide (a ≤ 9007199254740993)
def okT (x : S82) : Bool := timedB x.f2 && (timedB x.f3 && decide (x.f2 < x.f3))
def times (l : List S82) : Bool := l.all okT
def chk (b : List S82) (nx lg lw : Int) : Int :=
  if b.length > 200 then 2 else if (nx < 1 ∨ nx > 1099511627776) ∨ (lg < 1 ∨ lg > 1099511627776) then 1 else if ids nx 0 b = true then (if times b = true ∧ timedB lw = true then 0 else 21) else 1
theorem timed_ev (a : Int) : manifest_timed.f a = some (timedB a) := by
  unfold manifest_timed.f timedB
  by_cases h : a ≥ -9007199254740992
  · rw [if_pos h, decide_eq_true (show -9007199254740992 ≤ a from h), Bool.true_and]
  · rw [if_neg h, decide_eq_false (show ¬ -9007199254740992 ≤ a from h), Bool.false_and]
section
variable {b : List S82} {nx lg lw : Int}
theorem chk_j2 {l : List S82} {i : Nat} (hi : i < l.length) (hn : l.length ≤ 140737488355328) {y0 y1 y2 y3 : Int} (c : Bool) {r : Int} (h : c = false → Ev (fun k => manifest_Check.l0 k y0 l (l.length : Int) ((i + 1 : Nat) : Int) b nx lg lw) r) :
    Ev (fun k => manifest_Check.j2 k l (l.length : Int) (i : Int) c b nx lg lw y0 y1 y2 y3) (if c = true then 1 else r) := by
  cases c
  · refine Ev.step (f := fun k => manifest_Check.l0 k y0 l (l.length : Int) ((i + 1 : Nat) : Int) b nx lg lw) (fun k => ?_) (h rfl)
    simp only [manifest_Check.j2]
    rw [if_neg (by decide), wi1 hi hn]
  · refine Ev.step (f := fun _ => some 1) (fun k => ?_) (Ev.now _)
    simp only [manifest_Check.j2]
    rw [if_pos (by trivial)]
theorem chk_l0 (l : List S82) (hn : l.length ≤ 140737488355328) {R : Int} (hend : ∀ last i : Int, ¬ i < (l.length : Int) → Ev (fun k => manifest_Check.l0 k last l (l.length : Int) i b nx lg lw) R) :
    ∀ (d i : Nat) (last : Int), i + d = l.length → Ev (fun k => manifest_Check.l0 k last l (l.length : Int) (i : Int) b nx lg lw) (if ids nx last (l.drop i) = true then R else 1) := by
  intro d
  induction d with
  | zero =>
    intro i last hi
    rw [List.drop_of_length_le (by omega)]
    exact hend _ _ (by omega)
  | succ d ih =>
    intro i last hi
    have hlt : i < l.length := by omega
    rw [List.drop_eq_getElem_cons hlt]
    have h1 := ih (i + 1) l[i].f0 (by omega)
    refine Ev.step (f := fun k => manifest_Check.j2 k l (l.length : Int) (i : Int) (!(okB nx last l[i])) b nx lg lw l[i].f0 l[i].f1 l[i].f2 l[i].f3) (fun k => ?_) (ev_eq (chk_j2 hlt hn _ (fun _ => h1)) ?_)
    · simp only [manifest_Check.l0]
      rw [if_pos (by omega), if_pos (by omega), if_pos (by omega), rdT_nat hlt]
      generalize l[i] = x
      by_cases c1 : x.f0 < 1
      · rw [if_pos c1]; congr 1; unfold okB; rw [decide_eq_false (by omega)]; rfl
      · rw [if_neg c1]
        by_cases c2 : x.f0 ≤ last
        · rw [if_pos c2]; congr 1; unfold okB; rw [decide_eq_false (p := last < x.f0) (by omega)]; simp
        · rw [if_neg c2]
          by_cases c3 : x.f0 ≥ nx
          · rw [if_pos c3]; congr 1; unfold okB; rw [decide_eq_false (p := x.f0 < nx) (by omega)]; simp
          · rw [if_neg c3]
            by_cases c4 : x.f1 < 0
            · rw [if_pos c4]; congr 1; unfold okB; rw [decide_eq_false (p := 0 ≤ x.f1) (by omega)]; simp
            · rw [if_neg c4]; congr 1; unfold okB
              rw [decide_eq_true (p := 1 ≤ x.f0) (by omega), decide_eq_true (p := last < x.f0) (by omega), decide_eq_true (p := x.f0 < nx) (by omega), decide_eq_true (p := 0 ≤ x.f1) (by omega)]
              by_cases c5 : x.f1 ≤ 20
              · rw [decide_eq_true c5, decide_eq_false (by omega)]; rfl
              · rw [decide_eq_false c5, decide_eq_true (by omega)]; rfl
    · rw [ids]
      cases okB nx last l[i] <;> rfl
theorem chk_j4 {l : List S82} {i : Nat} (hi : i < l.length) (hn : l.length ≤ 140737488355328) (c : Bool) {r : Int} (h : c = false → Ev (fun k => manifest_Check.l1 k l (l.length : Int) ((i + 1 : Nat) : Int) b nx lg lw) r) :
    Ev (fun k => manifest_Check.j4 k l (l.length : Int) (i : Int) c b nx lg lw) (if c = true then 21 else r) := by
  cases c
  · refine Ev.step (f := fun k => manifest_Check.l1 k l (l.length : Int) ((i + 1 : Nat) : Int) b nx lg lw) (fun k => ?_) (h rfl)
    simp only [manifest_Check.j4]
    rw [if_neg (by decide), wi1 hi hn]
  · refine Ev.step (f := fun _ => some 21) (fun k => ?_) (Ev.now _)
    simp only [manifest_Check.j4]
    rw [if_pos (by trivial)]
theorem chk_l1 (l : List S82) (hn : l.length ≤ 140737488355328) :
    ∀ (d i : Nat), i + d = l.length → Ev (fun k => manifest_Check.l1 k l (l.length : Int) (i : Int) b nx lg lw) (if times (l.drop i) = true ∧ timedB lw = true then 0 else 21) := by
  intro d
  induction d with
  | zero =>
    intro i hi
    rw [List.drop_of_length_le (by omega)]
    refine Ev.step (f := fun _ => some (if timedB lw = true then 0 else 21)) (fun k => ?_) (ev_eq (Ev.now _) (by simp [times]))
    simp only [manifest_Check.l1, timed_ev, Option.bind_some]
    rw [if_neg (by omega)]
    split <;> rfl
  | succ d ih =>
    intro i hi
    have hlt : i < l.length := by omega
    rw [List.drop_eq_getElem_cons hlt]
    refine Ev.step (f := fun k => manifest_Check.j4 k l (l.length : Int) (i : Int) (!(okT l[i])) b nx lg lw) (fun k => ?_) (ev_eq (chk_j4 hlt hn _ (fun _ => ih (i + 1) (by omega))) ?_)
    · simp only [manifest_Check.l1, timed_ev, Option.bind_some]
      rw [if_pos (by omega), if_pos (by omega), if_pos (by omega), rdT_nat hlt]
      generalize l[i] = x
      unfold okT
      cases timedB x.f2
      · rw [if_neg (by decide)]; rfl
      · rw [if_pos rfl]
        cases timedB x.f3
        · rw [if_neg (by decide)]; rfl
        · rw [if_pos rfl]; congr 1
          by_cases c : x.f2 < x.f3
          · rw [decide_eq_true c, decide_eq_false (by omega)]; rfl
          · rw [decide_eq_false c, decide_eq_true (by omega)]; rfl
    · unfold times
      rw [List.all_cons]
      cases okT l[i] <;> rfl
theorem chk_j0 (hn : b.length ≤ 140737488355328) (c : Bool) : Ev (fun k => manifest_Check.j0 k c b nx lg lw) (if c = true then 1 else if ids nx 0 b = true then (if times b = true ∧ timedB lw = true then 0 else 21) else 1) := by
  cases c
  · have h1 := chk_l1 (b := b) (nx := nx) (lg := lg) (lw := lw) b hn b.length 0 (by omega)
    rw [List.drop_zero] at h1
    have h2 := chk_l0 (b := b) (nx := nx) (lg := lg) (lw := lw) b hn (R := if times b = true ∧ timedB lw = true then 0 else 21) (fun last i hi => ?_) b.length 0 0 (by omega)
    · refine Ev.step (f := fun k => manifest_Check.l0 k 0 b (b.length : Int) 0 b nx lg lw) (fun k => ?_) (ev_eq h2 (by rw [List.drop_zero]; rfl))
      simp only [manifest_Check.j0]
      rw [if_neg (by decide)]
    · refine Ev.step (f := fun k => manifest_Check.l1 k b (b.length : Int) 0 b nx lg lw) (fun k => ?_) h1
      simp only [manifest_Check.l0]
      rw [if_neg hi]
  · refine Ev.step (f := fun _ => some 1) (fun k => ?_) (Ev.now _)
    simp only [manifest_Check.j0]
    rw [if_pos (by trivial)]
theorem chk_ev (hn : b.length ≤ 140737488355328) : Ev (fun k => manifest_Check.f k b nx lg lw) (chk b nx lg lw) := by
  unfold manifest_Check.f chk
  by_cases c0 : b.length > 200
  · rw [if_pos c0]; exact ev_if_pos (by omega) (Ev.now _)
  · rw [if_neg c0]
    refine ev_if_neg (by omega) ?_
    by_cases c1 : nx < 1
    · rw [if_pos (.inl (.inl c1))]; exact ev_if_pos c1 (chk_j0 hn true)
    · refine ev_if_neg c1 ?_
      by_cases c2 : nx > 1099511627776
      · rw [if_pos (.inl (.inr c2))]; exact ev_if_pos c2 (chk_j0 hn true)
      · refine ev_if_neg c2 ?_
        by_cases c3 : lg < 1
        · rw [if_pos (.inr (.inl c3))]; exact ev_if_pos c3 (chk_j0 hn true)
        · refine ev_if_neg c3 ?_
          by_cases c4 : lg > 1099511627776
          · rw [if_pos (.inr (.inr c4)), decide_eq_true c4]; exact chk_j0 hn true
          · rw [if_neg (by omega), decide_eq_false c4]; exact chk_j0 hn false
end
section
variable {b : List S82} {nx lg lw : Int}
theorem rchk_j2 {i : Nat} (hi : i < b.length) (hn : b.length ≤ 140737488355328) (c : Bool) {r : Int} (h : c = false → Ev (fun k => lysimeterref16_CheckManifest.l0 k ((i + 1 : Nat) : Int) b nx lg lw) r) :
    Ev (fun k => lysimeterref16_CheckManifest.j2 k (i : Int) c b nx lg lw) (if c = true then 1 else r) := by
  cases c
  · refine Ev.step (f := fun k => lysimeterref16_CheckManifest.l0 k ((i + 1 : Nat) : Int) b nx lg lw) (fun k => ?_) (h rfl)
    simp only [lysimeterref16_CheckManifest.j2]
    rw [if_neg (by decide), wi1 hi hn]
  · refine Ev.step (f := fun _ => some 1) (fun k => ?_) (Ev.now _)
    simp only [lysimeterref16_CheckManifest.j2]
    rw [if_pos (by trivial)]
theorem rchk_l0 (hn : b.length ≤ 140737488355328) {R : Int} (hend : ∀ i : Int, ¬ i < (b.length : Int) → Ev (fun k => lysimeterref16_CheckManifest.l0 k i b nx lg lw) R) :
    ∀ (d i : Nat) (last : Int), i + d = b.length → (i = 0 → last = 0) → (∀ h : 0 < i, ∀ h' : i - 1 < b.length, last = b[i - 1].f0) → Ev (fun k => lysimeterref16_CheckManifest.l0 k (i : Int) b nx lg lw) (if ids nx last (b.drop i) = true then R else 1) := by
  intro d
  induction d with
  | zero =>
    intro i last hi _ _
    rw [List.drop_of_length_le (by omega)]
    exact hend _ (by omega)
  | succ d ih =>
    intro i last hi hl0 hl1
    have hlt : i < b.length := by omega
    rw [List.drop_eq_getElem_cons hlt]
    have h1 := ih (i + 1) b[i].f0 (by omega) (by omega) (fun _ _ => by simp)
    refine Ev.step (f := fun k => lysimeterref16_CheckManifest.j2 k (i : Int) (!(okB nx last b[i])) b nx lg lw) (fun k => ?_) (ev_eq (rchk_j2 hlt hn _ (fun _ => h1)) ?_)
    · have rest : ∀ x : S82, ¬ x.f0 < 1 → ¬ x.f0 ≤ last → (if x.f0 ≥ nx then lysimeterref16_CheckManifest.j2 k (i : Int) true b nx lg lw else if x.f1 < 0 then lysimeterref16_CheckManifest.j2 k (i : Int) true b nx lg lw else lysimeterref16_CheckManifest.j2 k (i : Int) (decide (x.f1 > 20)) b nx lg lw) = lysimeterref16_CheckManifest.j2 k (i : Int) (!(okB nx last x)) b nx lg lw := by
        intro x c1 c2
        by_cases c3 : x.f0 ≥ nx
        · rw [if_pos c3]; congr 1; unfold okB; rw [decide_eq_false (p := x.f0 < nx) (by omega)]; simp
        · rw [if_neg c3]
          by_cases c4 : x.f1 < 0
          · rw [if_pos c4]; congr 1; unfold okB; rw [decide_eq_false (p := 0 ≤ x.f1) (by omega)]; simp
          · rw [if_neg c4]; congr 1; unfold okB
            rw [decide_eq_true (p := 1 ≤ x.f0) (by omega), decide_eq_true (p := last < x.f0) (by omega), decide_eq_true (p := x.f0 < nx) (by omega), decide_eq_true (p := 0 ≤ x.f1) (by omega)]
            by_cases c5 : x.f1 ≤ 20
            · rw [decide_eq_true c5, decide_eq_false (by omega)]; rfl
            · rw [decide_eq_false c5, decide_eq_true (by omega)]; rfl
      simp only [lysimeterref16_CheckManifest.l0]
      rw [if_pos (by omega), if_pos (by omega), rdT_nat hlt]
      by_cases c1 : b[i].f0 < 1
      · rw [if_pos c1]; congr 1; unfold okB; rw [decide_eq_false (by omega)]; rfl
      · rw [if_neg c1]
        rcases Nat.eq_zero_or_pos i with hz | hz
        · have hl := hl0 hz
          rw [if_neg (by omega)]
          exact rest _ c1 (by omega)
        · have hi1 : i - 1 < b.length := by omega
          have hl := hl1 hz hi1
          have e1 : wrap64 ((i : Int) - 1) = ((i - 1 : Nat) : Int) := by rw [w64 (by omega) (by omega)]; omega
          rw [if_pos (by omega), e1, if_pos (by omega), if_pos (by omega), rdT_nat hi1, ← hl]
          by_cases c2 : b[i].f0 ≤ last
          · rw [if_pos c2]; congr 1; unfold okB; rw [decide_eq_false (p := last < b[i].f0) (by omega)]; simp
          · rw [if_neg c2]
            exact rest _ c1 c2
    · rw [ids]
      cases okB nx last b[i] <;> rfl
theorem rchk_j5 {i : Nat} (hi : i < b.length) (hn : b.length ≤ 140737488355328) (c : Bool) {r : Int} (h : c = false → Ev (fun k => lysimeterref16_CheckManifest.l1 k ((i + 1 : Nat) : Int) b nx lg lw) r) :
    Ev (fun k => lysimeterref16_CheckManifest.j5 k (i : Int) c b nx lg lw) (if c = true then 21 else r) := by
  cases c
  · refine Ev.step (f := fun k => lysimeterref16_CheckManifest.l1 k ((i + 1 : Nat) : Int) b nx lg lw) (fun k => ?_) (h rfl)
    simp only [lysimeterref16_CheckManifest.j5]
    rw [if_neg (by decide), wi1 hi hn]
  · refine Ev.step (f := fun _ => some 21) (fun k => ?_) (Ev.now _)
    simp only [lysimeterref16_CheckManifest.j5]
    rw [if_pos (by trivial)]
theorem rchk_l1 (hn : b.length ≤ 140737488355328) :
    ∀ (d i : Nat), i + d = b.length → Ev (fun k => lysimeterref16_CheckManifest.l1 k (i : Int) b nx lg lw) (if times (b.drop i) = true then 0 else 21) := by
  intro d
  induction d with
  | zero =>
    intro i hi
    rw [List.drop_of_length_le (by omega)]
    refine Ev.step (f := fun _ => some 0) (fun k => ?_) (Ev.now _)
    simp only [lysimeterref16_CheckManifest.l1]
    rw [if_neg (by omega)]
  | succ d ih =>
    intro i hi
    have hlt : i < b.length := by omega
    rw [List.drop_eq_getElem_cons hlt]
    refine Ev.step (f := fun k => lysimeterref16_CheckManifest.j5 k (i : Int) (!(okT b[i])) b nx lg lw) (fun k => ?_) (ev_eq (rchk_j5 hlt hn _ (fun _ => ih (i + 1) (by omega))) ?_)
    · simp only [lysimeterref16_CheckManifest.l1]
      rw [if_pos (by omega), if_pos (by omega), rdT_nat hlt]
      generalize b[i] = x
      unfold okT timedB
      by_cases c1 : x.f2 < -9007199254740992
      · rw [if_pos c1, decide_eq_false (p := -9007199254740992 ≤ x.f2) (by omega)]; rfl
      · rw [if_neg c1, decide_eq_true (p := -9007199254740992 ≤ x.f2) (by omega)]
        by_cases c2 : x.f2 > 9007199254740993
        · rw [if_pos c2, decide_eq_false (p := x.f2 ≤ 9007199254740993) (by omega)]; rfl
        · rw [if_neg c2, decide_eq_true (p := x.f2 ≤ 9007199254740993) (by omega)]
          by_cases c3 : x.f3 < -9007199254740992
          · rw [if_pos c3, decide_eq_false (p := -9007199254740992 ≤ x.f3) (by omega)]; rfl
          · rw [if_neg c3, decide_eq_true (p := -9007199254740992 ≤ x.f3) (by omega)]
            by_cases c4 : x.f3 > 9007199254740993
            · rw [if_pos c4, decide_eq_false (p := x.f3 ≤ 9007199254740993) (by omega)]; rfl
            · rw [if_neg c4, decide_eq_true (p := x.f3 ≤ 9007199254740993) (by omega)]
              by_cases c : x.f2 < x.f3
              · rw [decide_eq_true c, decide_eq_false (by omega)]; rfl
              · rw [decide_eq_false c, decide_eq_true (by omega)]; rfl
    · unfold times
      rw [List.all_cons]
      cases okT b[i] <;> rfl
theorem rchk_j3 (hn : b.length ≤ 140737488355328) (c : Bool) : Ev (fun k => lysimeterref16_CheckManifest.j3 k c b nx lg lw) (if c = true then 21 else if times b = true then 0 else 21) := by
  cases c
  · have h1 := rchk_l1 (b := b) (nx := nx) (lg := lg) (lw := lw) hn b.length 0 (by omega)
    refine Ev.step (f := fun k => lysimeterref16_CheckManifest.l1 k 0 b nx lg lw) (fun k => ?_) (ev_eq h1 (by rw [List.drop_zero]; rfl))
    simp only [lysimeterref16_CheckManifest.j3]
    rw [if_neg (by decide)]
  · refine Ev.step (f := fun _ => some 21) (fun k => ?_) (Ev.now _)
    simp only [lysimeterref16_CheckManifest.j3]
    rw [if_pos (by trivial)]
theorem rchk_j0 (hn : b.length ≤ 140737488355328) (c : Bool) : Ev (fun k => lysimeterref16_CheckManifest.j0 k c b nx lg lw) (if c = true then 1 else if ids nx 0 b = true then (if times b = true ∧ timedB lw = true then 0 else 21) else 1) := by
  cases c
  · have h2 := rchk_l0 (b := b) (nx := nx) (lg := lg) (lw := lw) hn (R := if times b = true ∧ timedB lw = true then 0 else 21) (fun i hi => ?_) b.length 0 0 (by omega) (fun _ => rfl) (fun h => absurd h (by omega))
    · refine Ev.step (f := fun k => lysimeterref16_CheckManifest.l0 k 0 b nx lg lw) (fun k => ?_) (ev_eq h2 (by rw [List.drop_zero]; rfl))
      simp only [lysimeterref16_CheckManifest.j0]
      rw [if_neg (by decide)]
    · refine Ev.step (f := fun k => lysimeterref16_CheckManifest.j3 k (!(timedB lw)) b nx lg lw) (fun k => ?_) (ev_eq (rchk_j3 hn _) ?_)
      · simp only [lysimeterref16_CheckManifest.l0]
        rw [if_neg hi]
        unfold timedB
        by_cases c1 : lw < -9007199254740992
        · rw [if_pos c1, decide_eq_false (p := -9007199254740992 ≤ lw) (by omega)]; rfl
        · rw [if_neg c1, decide_eq_true (p := -9007199254740992 ≤ lw) (by omega)]
          by_cases c2 : lw ≤ 9007199254740993
          · rw [decide_eq_true c2, decide_eq_false (by omega)]; rfl
          · rw [decide_eq_false c2, decide_eq_true (by omega)]; rfl
      · cases timedB lw <;> simp
  · refine Ev.step (f := fun _ => some 1) (fun k => ?_) (Ev.now _)
    simp only [lysimeterref16_CheckManifest.j0]
    rw [if_pos (by trivial)]
theorem rchk_ev (hn : b.length ≤ 140737488355328) : Ev (fun k => lysimeterref16_CheckManifest.f k b nx lg lw) (chk b nx lg lw) := by
  unfold lysimeterref16_CheckManifest.f chk
  by_cases c0 : b.length > 200
  · rw [if_pos c0]; exact ev_if_pos (by omega) (Ev.now _)
  · rw [if_neg c0]
    refine ev_if_neg (by omega) ?_
    by_cases c1 : nx < 1
    · rw [if_pos (.inl (.inl c1))]; exact ev_if_pos c1 (rchk_j0 hn true)
    · refine ev_if_neg c1 ?_
      by_cases c3 : lg < 1
      · rw [if_pos (.inr (.inl c3))]; exact ev_if_pos c3 (rchk_j0 hn true)
      · refine ev_if_neg c3 ?_
        by_cases c2 : nx > 1099511627776
        · rw [if_pos (.inl (.inr c2))]; exact ev_if_pos c2 (rchk_j0 hn true)
        · refine ev_if_neg c2 ?_
          by_cases c4 : lg > 1099511627776
          · rw [if_pos (.inr (.inr c4)), decide_eq_true c4]; exact rchk_j0 hn true
          · rw [if_neg (by omega), decide_eq_false c4]; exact rchk_j0 hn false
end
def sel (lv : Int) : List S82 → List Int
  | [] => []
  | x :: l => if x.f1 = lv then x.f0 :: sel lv l else sel lv l
theorem sel_len (lv : Int) : ∀ l : List S82, (sel lv l).length ≤ l.length
  | [] => Nat.le_refl _
  | x :: l => by
    have := sel_len lv l
    rw [sel]
    split <;> simp only [List.length_cons] <;> omega
def pickF : Nat → Int → List S82 → List Int
  | 0, _, _ => []
  | n + 1, lv, b => if 4 ≤ (sel lv b).length then (sel lv b).take 4 else pickF n (lv + 1) b
theorem pickF_len : ∀ (n : Nat) (lv : Int) (b : List S82), (pickF n lv b).length ≤ 4
  | 0, _, _ => Nat.zero_le _
  | n + 1, lv, b => by
    rw [pickF]
    split
    · rw [List.length_take]; omega
    · exact pickF_len n _ b
def pickV (b : List S82) (nx lg lw : Int) : List Int := if chk b nx lg lw = 0 then pickF 21 0 b else []
theorem pickV_len (b : List S82) (nx lg lw : Int) : (pickV b nx lg lw).length ≤ 140737488355328 := by
  unfold pickV
  split
  · exact Nat.le_trans (pickF_len _ _ _) (by decide)
  · exact Nat.zero_le _
section
variable {b : List S82} {nx lg lw : Int}
theorem pick_l1 (hn : b.length ≤ 140737488355) {lv : Int} {r : List Int} (hend : ∀ i : Int, ¬ i < (b.length : Int) → Ev (fun k => manifest_Pick.l1 k lv (sel lv b) lv b (b.length : Int) i b nx lg lw) r) :
    ∀ (d i : Nat) (acc : List Int), i + d = b.length → acc.length ≤ i → acc ++ sel lv (b.drop i) = sel lv b → Ev (fun k => manifest_Pick.l1 k lv acc lv b (b.length : Int) (i : Int) b nx lg lw) r := by
  intro d
  induction d with
  | zero =>
    intro i acc hi _ he
    rw [List.drop_of_length_le (by omega), sel, List.append_nil] at he
    rw [he]
    exact hend _ (by omega)
  | succ d ih =>
    intro i acc hi hl he
    have hlt : i < b.length := by omega
    rw [List.drop_eq_getElem_cons hlt, sel] at he
    by_cases c : b[i].f1 = lv
    · rw [if_pos c] at he
      refine Ev.step (f := fun k => manifest_Pick.l1 k lv (acc ++ [b[i].f0]) lv b (b.length : Int) ((i + 1 : Nat) : Int) b nx lg lw) (fun k => ?_) (ih (i + 1) (acc ++ [b[i].f0]) (by omega) (by simp only [List.length_append, List.length_cons, List.length_nil]; omega) (by rw [List.append_assoc]; exact he))
      simp only [manifest_Pick.l1]
      rw [if_pos (by omega), if_pos (by omega), if_pos (by omega), rdT_nat hlt, if_pos c, if_pos (by omega), wi1 hlt (by omega)]
    · rw [if_neg c] at he
      refine Ev.step (f := fun k => manifest_Pick.l1 k lv acc lv b (b.length : Int) ((i + 1 : Nat) : Int) b nx lg lw) (fun k => ?_) (ih (i + 1) _ (by omega) (by omega) he)
      simp only [manifest_Pick.l1]
      rw [if_pos (by omega), if_pos (by omega), if_pos (by omega), rdT_nat hlt, if_neg c, wi1 hlt (by omega)]
theorem pick_l0 (hn : b.length ≤ 140737488355) : ∀ (n : Nat) (lv : Int), lv + n = 21 → 0 ≤ lv → Ev (fun k => manifest_Pick.l0 k lv b nx lg lw) (pickF n lv b) := by
  intro n
  induction n with
  | zero =>
    intro lv h _
    refine Ev.step (f := fun _ => some []) (fun k => ?_) (Ev.now _)
    simp only [manifest_Pick.l0]
    rw [if_neg (by omega)]
  | succ n ih =>
    intro lv h h0
    have h1 := ih (lv + 1) (by omega) (by omega)
    refine Ev.step (f := fun k => manifest_Pick.l1 k lv [] lv b (b.length : Int) 0 b nx lg lw) (fun k => ?_) (pick_l1 hn (fun i hi => ?_) b.length 0 [] (by omega) (Nat.le_refl _) rfl)
    · simp only [manifest_Pick.l0]
      rw [if_pos (by omega)]
    · rw [pickF]
      by_cases c : 4 ≤ (sel lv b).length
      · rw [if_pos c]
        refine Ev.step (f := fun _ => some ((sel lv b).take 4)) (fun k => ?_) (Ev.now _)
        simp only [manifest_Pick.l1]
        rw [if_neg hi, if_pos (by omega), if_pos (by omega)]
        rfl
      · rw [if_neg c]
        refine Ev.step (f := fun k => manifest_Pick.l0 k (lv + 1) b nx lg lw) (fun k => ?_) h1
        simp only [manifest_Pick.l1]
        rw [if_neg hi, if_neg (by omega), w64 (by omega) (by omega)]
theorem pick_ev (hn : b.length ≤ 140737488355) : Ev (fun k => manifest_Pick.f k b nx lg lw) (pickV b nx lg lw) := by
  unfold manifest_Pick.f pickV
  refine Ev.bind (chk_ev (by omega)) ?_
  by_cases c : chk b nx lg lw = 0
  · rw [if_pos c]; exact ev_if_pos c (pick_l0 hn 21 0 (by omega) (by omega))
  · rw [if_neg c]; exact ev_if_neg c (Ev.now _)
end
section
variable {b : List S82} {nx lg lw : Int}
theorem rpick_l1 (hn : b.length ≤ 140737488355) {lv : Int} {r : List Int} (hend : ∀ i : Int, ¬ i < (b.length : Int) → Ev (fun k => lysimeterref16_Pick.l1 k lv ((sel lv b).take 4) i b nx lg lw) r) :
    ∀ (d i : Nat) (acc : List Int), i + d = b.length → acc.length ≤ i → acc ++ sel lv (b.drop i) = sel lv b → Ev (fun k => lysimeterref16_Pick.l1 k lv (acc.take 4) (i : Int) b nx lg lw) r := by
  intro d
  induction d with
  | zero =>
    intro i acc hi _ he
    rw [List.drop_of_length_le (by omega), sel, List.append_nil] at he
    rw [he]
    exact hend _ (by omega)
  | succ d ih =>
    intro i acc hi hl he
    have hlt : i < b.length := by omega
    rw [List.drop_eq_getElem_cons hlt, sel] at he
    by_cases c : b[i].f1 = lv
    · rw [if_pos c] at he
      have h1 := ih (i + 1) (acc ++ [b[i].f0]) (by omega) (by simp only [List.length_append, List.length_cons, List.length_nil]; omega) (by rw [List.append_assoc]; exact he)
      have hlen : (acc.take 4).length = min 4 acc.length := List.length_take
      by_cases c4 : acc.length < 4
      · rw [List.take_of_length_le (by simp only [List.length_append, List.length_cons, List.length_nil]; omega)] at h1
        rw [List.take_of_length_le (by omega)]
        refine Ev.step (f := fun k => lysimeterref16_Pick.l1 k lv (acc ++ [b[i].f0]) ((i + 1 : Nat) : Int) b nx lg lw) (fun k => ?_) h1
        simp only [lysimeterref16_Pick.l1]
        rw [if_pos (by omega), if_pos (by omega), rdT_nat hlt, if_pos c, if_pos (by omega), if_pos (by omega), wi1 hlt (by omega)]
      · rw [List.take_append_of_le_length (by omega)] at h1
        refine Ev.step (f := fun k => lysimeterref16_Pick.l1 k lv (acc.take 4) ((i + 1 : Nat) : Int) b nx lg lw) (fun k => ?_) h1
        simp only [lysimeterref16_Pick.l1]
        rw [if_pos (by omega), if_pos (by omega), rdT_nat hlt, if_pos c, if_neg (by omega), wi1 hlt (by omega)]
    · rw [if_neg c] at he
      refine Ev.step (f := fun k => lysimeterref16_Pick.l1 k lv (acc.take 4) ((i + 1 : Nat) : Int) b nx lg lw) (fun k => ?_) (ih (i + 1) _ (by omega) (by omega) he)
      simp only [lysimeterref16_Pick.l1]
      rw [if_pos (by omega), if_pos (by omega), rdT_nat hlt, if_neg c, wi1 hlt (by omega)]
theorem rpick_l0 (hn : b.length ≤ 140737488355) : ∀ (n : Nat) (lv : Int), lv + n = 21 → 0 ≤ lv → Ev (fun k => lysimeterref16_Pick.l0 k lv b nx lg lw) (pickF n lv b) := by
  intro n
  induction n with
  | zero =>
    intro lv h _
    refine Ev.step (f := fun _ => some []) (fun k => ?_) (Ev.now _)
    simp only [lysimeterref16_Pick.l0]
    rw [if_neg (by omega)]
  | succ n ih =>
    intro lv h h0
    have h1 := ih (lv + 1) (by omega) (by omega)
    refine Ev.step (f := fun k => lysimeterref16_Pick.l1 k lv [] 0 b nx lg lw) (fun k => ?_) (rpick_l1 hn (fun i hi => ?_) b.length 0 [] (by omega) (Nat.le_refl _) rfl)
    · simp only [lysimeterref16_Pick.l0]
      rw [if_pos (by omega)]
    · rw [pickF]
      have hlen : ((sel lv b).take 4).length = min 4 (sel lv b).length := List.length_take
      by_cases c : 4 ≤ (sel lv b).length
      · rw [if_pos c]
        refine Ev.step (f := fun _ => some ((sel lv b).take 4)) (fun k => ?_) (Ev.now _)
        simp only [lysimeterref16_Pick.l1]
        rw [if_neg hi, if_pos (by omega)]
      · rw [if_neg c]
        refine Ev.step (f := fun k => lysimeterref16_Pick.l0 k (lv + 1) b nx lg lw) (fun k => ?_) h1
        simp only [lysimeterref16_Pick.l1]
        rw [if_neg hi, if_neg (by omega), w64 (by omega) (by omega)]
theorem rpick_ev (hn : b.length ≤ 140737488355) : Ev (fun k => lysimeterref16_Pick.f k b nx lg lw) (pickV b nx lg lw) := by
  unfold lysimeterref16_Pick.f pickV
  refine Ev.bind (rchk_ev (by omega)) ?_
  by_cases c : chk b nx lg lw = 0
  · rw [if_pos c]; exact ev_if_pos c (rpick_l0 hn 21 0 (by omega) (by omega))
  · rw [if_neg c]; exact ev_if_neg c (Ev.now _)
end
theorem alive17_ev : Ev (fun k => lysimeterlaw17_alive.f k) true := Ev.of lysimeterlaw17_alive.mono (k := 60) (by decide +kernel)
theorem of_l0 (l : List Int) (hn : l.length ≤ 140737488355) : ∀ (d i : Nat) (acc : List S82) (nx : Int), i + d = l.length → acc.length = i → ∃ (b : List S82) (nx' : Int), b.length = l.length ∧ Ev (fun k => lysimeterlaw17_of.l0 k l (i : Int) acc nx 1 0) (b, nx', 1, 0) := by
  intro d
  induction d with
  | zero =>
    intro i acc nx hi ha
    refine ⟨acc, nx, by omega, Ev.step (f := fun _ => some (acc, nx, 1, 0)) (fun k => ?_) (Ev.now _)⟩
    simp only [lysimeterlaw17_of.l0]
    rw [if_neg (by omega)]
  | succ d ih =>
    intro i acc nx hi ha
    have hlt : i < l.length := by omega
    obtain ⟨b, nx', hb, h1⟩ := ih (i + 1) (acc ++ [(⟨((i + 1 : Nat) : Int), l[i], (i : Int), ((i + 1 : Nat) : Int)⟩ : S82)]) (wrap64 (nx + 1)) (by omega) (by simp only [List.length_append, List.length_cons, List.length_nil]; omega)
    refine ⟨b, nx', hb, Ev.step (f := fun k => lysimeterlaw17_of.l0 k l ((i + 1 : Nat) : Int) (acc ++ [(⟨((i + 1 : Nat) : Int), l[i], (i : Int), ((i + 1 : Nat) : Int)⟩ : S82)]) (wrap64 (nx + 1)) 1 0) (fun k => ?_) h1⟩
    simp only [lysimeterlaw17_of.l0]
    rw [if_pos (by omega), if_pos (by omega), if_pos (by omega), rd_nat hlt, wi1 hlt (by omega)]
theorem ManifestPicks : lysimeterlaw17_ManifestPicks.Pure := by
  intro b nx lg lw l _ _ _ _ _ hl8 _
  refine Ev.rounds (g := fun k => lysimeterlaw17_ManifestPicks.f k b nx lg lw l) ?_
  unfold lysimeterlaw17_ManifestPicks.f
  have out : Ev (fun k => lysimeterlaw17_ManifestPicks.j0 k l true true b nx lg lw) true := by
    refine Ev.step (f := fun _ => some true) (fun k => ?_) (Ev.now _)
    simp only [lysimeterlaw17_ManifestPicks.j0]
    rw [if_pos (by trivial)]
  refine Ev.bind alive17_ev (ev_if_pos rfl ?_)
  by_cases c1 : (b.length : Int) > 400
  · exact ev_if_pos c1 out
  · refine ev_if_neg c1 ?_
    by_cases c2 : (l.length : Int) > 150
    · rw [decide_eq_true c2]; exact out
    · rw [decide_eq_false c2]
      obtain ⟨b', nx', hb', h1⟩ := of_l0 l (by omega) l.length 0 [] 1 (by omega) rfl
      have hof : Ev (fun k => lysimeterlaw17_of.f k l) (b', nx', 1, 0) := h1
      refine Ev.step (fun k => lysimeterlaw17_ManifestPicks.j0.eq_2 l true false b nx lg lw k) (ev_if_neg (by decide) (Ev.bind hof ?_))
      refine Ev.bind (pick_ev (by omega)) (Ev.bind (rpick_ev (by omega)) (Ev.bind (same_self (pickV_len _ _ _ _)) (ev_if_pos rfl ?_)))
      exact Ev.bind (pick_ev (b := b') (by omega)) (Ev.bind (rpick_ev (b := b') (by omega)) (Ev.bind (same_self (pickV_len _ _ _ _)) (Ev.now _)))

end Go.Proofs.Ytjilnpbgclnecaa.Pure
