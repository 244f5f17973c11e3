/- What every manifest becomes by one block more, and by blocks that are put together, or why it does not, is what the document's reference tells, and what is handed in stays (statement ManifestTurns); no condition. -/
import Derived.Test.YtjilnpbgclnecabPManifestTurnsx10
import Derived.Test.YtjilnpbgclnecabXPure
set_option linter.unusedVariables false
set_option linter.unusedSimpArgs false
namespace Go.Proofs.Ytjilnpbgclnecab.Pure
open Go Go.RowKit Go.Proofs.Ytjilnpbgclnecab.PManifestTurns Go.Proofs.Ytjilnpbgclnecab.XP Go.Proofs.YtjilnpbgclnecabW.PrintWords Go.Proofs.YtjilnpbgclnecabW.PrintLast Go.Proofs.YtjilnpbgclnecabW.PrintMore

/-! ### two rows that are one -/
theorem rd_nat {l : List Int} {i : Nat} (h : i < l.length) : rd l (i : Int) = l[i] := by
  unfold rd
  rw [Int.toNat_natCast, List.getD_eq_getElem?_getD, List.getElem?_eq_getElem h]; rfl
theorem wi1 {i n : Nat} (h : i < n) (hn : n ≤ 140737488355328) : wrap64 ((i : Int) + 1) = ((i + 1 : Nat) : Int) := by rw [w64 (by omega) (by omega)]; omega
theorem same_l0 (a b : List Int) (hab : a.length = b.length) (hn : a.length ≤ 140737488355328) : ∀ (d i : Nat), i + d = a.length → Ev (fun k => lysimeterlaw6_SameInts.l0 k a b (i : Int)) (decide (a.drop i = b.drop i)) := by
  intro d
  induction d with
  | zero =>
    intro i hi
    rw [List.drop_of_length_le (by omega), List.drop_of_length_le (by omega)]
    refine Ev.step (f := fun _ => some true) (fun k => ?_) (ev_eq (Ev.now _) (by simp))
    simp only [lysimeterlaw6_SameInts.l0]
    rw [if_neg (by omega)]
  | succ d ih =>
    intro i hi
    have hlt : i < a.length := by omega
    have hlt' : i < b.length := by omega
    rw [List.drop_eq_getElem_cons hlt, List.drop_eq_getElem_cons hlt']
    by_cases c1 : a[i] = b[i]
    · refine Ev.step (f := fun k => lysimeterlaw6_SameInts.l0 k a b ((i + 1 : Nat) : Int)) (fun k => ?_) (ev_eq (ih (i + 1) (by omega)) (by rw [decide_eq_decide, List.cons.injEq]; exact ⟨fun e => ⟨c1, e⟩, fun e => e.2⟩))
      simp only [lysimeterlaw6_SameInts.l0]
      rw [if_pos (by omega), if_pos (by omega), if_pos (by omega), rd_nat hlt, rd_nat hlt', if_pos c1, wi1 hlt hn]
    · refine Ev.step (f := fun _ => some false) (fun k => ?_) (ev_eq (Ev.now _) (by rw [decide_eq_false]; intro e; exact c1 (List.cons.inj e).1))
      simp only [lysimeterlaw6_SameInts.l0]
      rw [if_pos (by omega), if_pos (by omega), if_pos (by omega), rd_nat hlt, rd_nat hlt', if_neg c1]
theorem same_ev {a b : List Int} (hn : a.length ≤ 140737488355328) : Ev (fun k => lysimeterlaw6_SameInts.f k a b) (decide (a = b)) := by
  unfold lysimeterlaw6_SameInts.f
  by_cases h : a.length = b.length
  · exact ev_if_pos (by omega) (same_l0 a b h hn a.length 0 (by omega))
  · exact ev_if_neg (by omega) (ev_eq (Ev.now _) (by rw [decide_eq_false]; intro e; exact h (congrArg List.length e)))
theorem same_self {a : List Int} (hn : a.length ≤ 140737488355328) : Ev (fun k => lysimeterlaw6_SameInts.f k a a) true := ev_eq (same_ev hn) (by simp)
/-! ### what a manifest is asked -/
theorem rdT_nat {l : List S52} {i : Nat} (h : i < l.length) : rd_T52 l (i : Int) = l[i] := by
  unfold rd_T52
  rw [Int.toNat_natCast, List.getD_eq_getElem?_getD, List.getElem?_eq_getElem h]; rfl
def okB (nx last : Int) (x : S52) : Bool := decide (1 ≤ x.f0) && (decide (last < x.f0) && (decide (x.f0 < nx) && (decide (0 ≤ x.f1) && decide (x.f1 ≤ 20))))
def ids (nx : Int) : Int → List S52 → Bool
  | _, [] => true
  | last, x :: l => okB nx last x && ids nx x.f0 l
def timedB (a : Int) : Bool := decide (-9007199254740992 ≤ a) && decide (a ≤ 9007199254740993)
def okT (x : S52) : Bool := timedB x.f2 && (timedB x.f3 && decide (x.f2 < x.f3))
def times (l : List S52) : Bool := l.all okT
def chk (b : List S52) (nx lg lw : Int) : Int :=
  if b.length > 200 then 2 else if (nx < 1 ∨ nx > 1099511627776) ∨ (lg < 1 ∨ lg > 1099511627776) then 1 else if ids nx 0 b = true then (if times b = true ∧ timedB lw = true then 0 else 21) else 1
theorem timed_ev (a : Int) : manifest_timed.f a = some (timedB a) := by
  unfold manifest_timed.f timedB
  by_cases h : a ≥ -9007199254740992
  · rw [if_pos h, decide_eq_true (show -9007199254740992 ≤ a from h), Bool.true_and]
  · rw [if_neg h, decide_eq_false (show ¬ -9007199254740992 ≤ a from h), Bool.false_and]
section
variable {b : List S52} {nx lg lw : Int}
theorem chk_j2 {l : List S52} {i : Nat} (hi : i < l.length) (hn : l.length ≤ 140737488355328) {y0 y1 y2 y3 : Int} (c : Bool) {r : Int} (h : c = false → Ev (fun k => manifest_Check.l0 k y0 l (l.length : Int) ((i + 1 : Nat) : Int) b nx lg lw) r) :
    Ev (fun k => manifest_Check.j2 k l (l.length : Int) (i : Int) c b nx lg lw y0 y1 y2 y3) (if c = true then 1 else r) := by
  cases c
  · refine Ev.step (f := fun k => manifest_Check.l0 k y0 l (l.length : Int) ((i + 1 : Nat) : Int) b nx lg lw) (fun k => ?_) (h rfl)
    simp only [manifest_Check.j2]
    rw [if_neg (by decide), wi1 hi hn]
  · refine Ev.step (f := fun _ => some 1) (fun k => ?_) (Ev.now _)
    simp only [manifest_Check.j2]
    rw [if_pos (by trivial)]
theorem chk_l0 (l : List S52) (hn : l.length ≤ 140737488355328) {R : Int} (hend : ∀ last i : Int, ¬ i < (l.length : Int) → Ev (fun k => manifest_Check.l0 k last l (l.length : Int) i b nx lg lw) R) :
    ∀ (d i : Nat) (last : Int), i + d = l.length → Ev (fun k => manifest_Check.l0 k last l (l.length : Int) (i : Int) b nx lg lw) (if ids nx last (l.drop i) = true then R else 1) := by
  intro d
  induction d with
  | zero =>
    intro i last hi
    rw [List.drop_of_length_le (by omega)]
    exact hend _ _ (by omega)
  | succ d ih =>
    intro i last hi
    have hlt : i < l.length := by omega
    rw [List.drop_eq_getElem_cons hlt]
    have h1 := ih (i + 1) l[i].f0 (by omega)
    refine Ev.step (f := fun k => manifest_Check.j2 k l (l.length : Int) (i : Int) (!(okB nx last l[i])) b nx lg lw l[i].f0 l[i].f1 l[i].f2 l[i].f3) (fun k => ?_) (ev_eq (chk_j2 hlt hn _ (fun _ => h1)) ?_)
    · simp only [manifest_Check.l0]
      rw [if_pos (by omega), if_pos (by omega), if_pos (by omega), rdT_nat hlt]
      generalize l[i] = x
      by_cases c1 : x.f0 < 1
      · rw [if_pos c1]; congr 1; unfold okB; rw [decide_eq_false (by omega)]; rfl
      · rw [if_neg c1]
        by_cases c2 : x.f0 ≤ last
        · rw [if_pos c2]; congr 1; unfold okB; rw [decide_eq_false (p := last < x.f0) (by omega)]; simp
        · rw [if_neg c2]
          by_cases c3 : x.f0 ≥ nx
          · rw [if_pos c3]; congr 1; unfold okB; rw [decide_eq_false (p := x.f0 < nx) (by omega)]; simp
          · rw [if_neg c3]
            by_cases c4 : x.f1 < 0
            · rw [if_pos c4]; congr 1; unfold okB; rw [decide_eq_false (p := 0 ≤ x.f1) (by omega)]; simp
            · rw [if_neg c4]; congr 1; unfold okB
              rw [decide_eq_true (p := 1 ≤ x.f0) (by omega), decide_eq_true (p := last < x.f0) (by omega), decide_eq_true (p := x.f0 < nx) (by omega), decide_eq_true (p := 0 ≤ x.f1) (by omega)]
              by_cases c5 : x.f1 ≤ 20
              · rw [decide_eq_true c5, decide_eq_false (by omega)]; rfl
              · rw [decide_eq_false c5, decide_eq_true (by omega)]; rfl
    · rw [ids]
      cases okB nx last l[i] <;> rfl
theorem chk_j4 {l : List S52} {i : Nat} (hi : i < l.length) (hn : l.length ≤ 140737488355328) (c : Bool) {r : Int} (h : c = false → Ev (fun k => manifest_Check.l1 k l (l.length : Int) ((i + 1 : Nat) : Int) b nx lg lw) r) :
    Ev (fun k => manifest_Check.j4 k l (l.length : Int) (i : Int) c b nx lg lw) (if c = true then 21 else r) := by
  cases c
  · refine Ev.step (f := fun k => manifest_Check.l1 k l (l.length : Int) ((i + 1 : Nat) : Int) b nx lg lw) (fun k => ?_) (h rfl)
    simp only [manifest_Check.j4]
    rw [if_neg (by decide), wi1 hi hn]
  · refine Ev.step (f := fun _ => some 21) (fun k => ?_) (Ev.now _)
    simp only [manifest_Check.j4]
    rw [if_pos (by trivial)]
theorem chk_l1 (l : List S52) (hn : l.length ≤ 140737488355328) :
    ∀ (d i : Nat), i + d = l.length → Ev (fun k => manifest_Check.l1 k l (l.length : Int) (i : Int) b nx lg lw) (if times (l.drop i) = true ∧ timedB lw = true then 0 else 21) := by
  intro d
  induction d with
  | zero =>
    intro i hi
    rw [List.drop_of_length_le (by omega)]
    refine Ev.step (f := fun _ => some (if timedB lw = true then 0 else 21)) (fun k => ?_) (ev_eq (Ev.now _) (by simp [times]))
    simp only [manifest_Check.l1, timed_ev, Option.bind_some]
    rw [if_neg (by omega)]
    split <;> rfl
  | succ d ih =>
    intro i hi
    have hlt : i < l.length := by omega
    rw [List.drop_eq_getElem_cons hlt]
    refine Ev.step (f := fun k => manifest_Check.j4 k l (l.length : Int) (i : Int) (!(okT l[i])) b nx lg lw) (fun k => ?_) (ev_eq (chk_j4 hlt hn _ (fun _ => ih (i + 1) (by omega))) ?_)
    · simp only [manifest_Check.l1, timed_ev, Option.bind_some]
      rw [if_pos (by omega), if_pos (by omega), if_pos (by omega), rdT_nat hlt]
      generalize l[i] = x
      unfold okT
      cases timedB x.f2
      · rw [if_neg (by decide)]; rfl
      · rw [if_pos rfl]
        cases timedB x.f3
        · rw [if_neg (by decide)]; rfl
        · rw [if_pos rfl]; congr 1
          by_cases c : x.f2 < x.f3
          · rw [decide_eq_true c, decide_eq_false (by omega)]; rfl
          · rw [decide_eq_false c, decide_eq_true (by omega)]; rfl
    · unfold times
      rw [List.all_cons]
      cases okT l[i] <;> rfl
theorem chk_j0 (hn : b.length ≤ 140737488355328) (c : Bool) : Ev (fun k => manifest_Check.j0 k c b nx lg lw) (if c = true then 1 else if ids nx 0 b = true then (if times b = true ∧ timedB lw = true then 0 else 21) else 1) := by
  cases c
  · have h1 := chk_l1 (b := b) (nx := nx) (lg := lg) (lw := lw) b hn b.length 0 (by omega)
    rw [List.drop_zero] at h1
    have h2 := chk_l0 (b := b) (nx := nx) (lg := lg) (lw := lw) b hn (R := if times b = true ∧ timedB lw = true then 0 else 21) (fun last i hi => ?_) b.length 0 0 (by omega)
    · refine Ev.step (f := fun k => manifest_Check.l0 k 0 b (b.length : Int) 0 b nx lg lw) (fun k => ?_) (ev_eq h2 (by rw [List.drop_zero]; rfl))
      simp only [manifest_Check.j0]
      rw [if_neg (by decide)]
    · refine Ev.step (f := fun k => manifest_Check.l1 k b (b.length : Int) 0 b nx lg lw) (fun k => ?_) h1
      simp only [manifest_Check.l0]
      rw [if_neg hi]
  · refine Ev.step (f := fun _ => some 1) (fun k => ?_) (Ev.now _)
    simp only [manifest_Check.j0]
    rw [if_pos (by trivial)]
theorem chk_ev (hn : b.length ≤ 140737488355328) : Ev (fun k => manifest_Check.f k b nx lg lw) (chk b nx lg lw) := by
  unfold manifest_Check.f chk
  by_cases c0 : b.length > 200
  · rw [if_pos c0]; exact ev_if_pos (by omega) (Ev.now _)
  · rw [if_neg c0]
    refine ev_if_neg (by omega) ?_
    by_cases c1 : nx < 1
    · rw [if_pos (.inl (.inl c1))]; exact ev_if_pos c1 (chk_j0 hn true)
    · refine ev_if_neg c1 ?_
      by_cases c2 : nx > 1099511627776
      · rw [if_pos (.inl (.inr c2))]; exact ev_if_pos c2 (chk_j0 hn true)
      · refine ev_if_neg c2 ?_
        by_cases c3 : lg < 1
        · rw [if_pos (.inr (.inl c3))]; exact ev_if_pos c3 (chk_j0 hn true)
        · refine ev_if_neg c3 ?_
          by_cases c4 : lg > 1099511627776
          · rw [if_pos (.inr (.inr c4)), decide_eq_true c4]; exact chk_j0 hn true
          · rw [if_neg (by omega), decide_eq_false c4]; exact chk_j0 hn false
end
section
variable {b : List S52} {nx lg lw : Int}
theorem rchk_j2 {i : Nat} (hi : i < b.length) (hn : b.length ≤ 140737488355328) (c : Bool) {r : Int} (h : c = false → Ev (fun k => lysimeterref16_CheckManifest.l0 k ((i + 1 : Nat) : Int) b nx lg lw) r) :
    Ev (fun k => lysimeterref16_CheckManifest.j2 k (i : Int) c b nx lg lw) (if c = true then 1 else r) := by
  cases c
  · refine Ev.step (f := fun k => lysimeterref16_CheckManifest.l0 k ((i + 1 : Nat) : Int) b nx lg lw) (fun k => ?_) (h rfl)
    simp only [lysimeterref16_CheckManifest.j2]
    rw [if_neg (by decide), wi1 hi hn]
  · refine Ev.step (f := fun _ => some 1) (fun k => ?_) (Ev.now _)
    simp only [lysimeterref16_CheckManifest.j2]
    rw [if_pos (by trivial)]
theorem rchk_l0 (hn : b.length ≤ 140737488355328) {R : Int} (hend : ∀ i : Int, ¬ i < (b.length : Int) → Ev (fun k => lysimeterref16_CheckManifest.l0 k i b nx lg lw) R) :
    ∀ (d i : Nat) (last : Int), i + d = b.length → (i = 0 → last = 0) → (∀ h : 0 < i, ∀ h' : i - 1 < b.length, last = b[i - 1].f0) → Ev (fun k => lysimeterref16_CheckManifest.l0 k (i : Int) b nx lg lw) (if ids nx last (b.drop i) = true then R else 1) := by
  intro d
  induction d with
  | zero =>
    intro i last hi _ _
    rw [List.drop_of_length_le (by omega)]
    exact hend _ (by omega)
  | succ d ih =>
    intro i last hi hl0 hl1
    have hlt : i < b.length := by omega
    rw [List.drop_eq_getElem_cons hlt]
    have h1 := ih (i + 1) b[i].f0 (by omega) (by omega) (fun _ _ => by simp)
    refine Ev.step (f := fun k => lysimeterref16_CheckManifest.j2 k (i : Int) (!(okB nx last b[i])) b nx lg lw) (fun k => ?_) (ev_eq (rchk_j2 hlt hn _ (fun _ => h1)) ?_)
    · have rest : ∀ x : S52, ¬ x.f0 < 1 → ¬ x.f0 ≤ last → (if x.f0 ≥ nx then lysimeterref16_CheckManifest.j2 k (i : Int) true b nx lg lw else if x.f1 < 0 then lysimeterref16_CheckManifest.j2 k (i : Int) true b nx lg lw else lysimeterref16_CheckManifest.j2 k (i : Int) (decide (x.f1 > 20)) b nx lg lw) = lysimeterref16_CheckManifest.j2 k (i : Int) (!(okB nx last x)) b nx lg lw := by
        intro x c1 c2
        by_cases c3 : x.f0 ≥ nx
        · rw [if_pos c3]; congr 1; unfold okB; rw [decide_eq_false (p := x.f0 < nx) (by omega)]; simp
        · rw [if_neg c3]
          by_cases c4 : x.f1 < 0
          · rw [if_pos c4]; congr 1; unfold okB; rw [decide_eq_false (p := 0 ≤ x.f1) (by omega)]; simp
          · rw [if_neg c4]; congr 1; unfold okB
            rw [decide_eq_true (p := 1 ≤ x.f0) (by omega), decide_eq_true (p := last < x.f0) (by omega), decide_eq_true (p := x.f0 < nx) (by omega), decide_eq_true (p := 0 ≤ x.f1) (by omega)]
            by_cases c5 : x.f1 ≤ 20
            · rw [decide_eq_true c5, decide_eq_false (by omega)]; rfl
            · rw [decide_eq_false c5, decide_eq_true (by omega)]; rfl
      simp only [lysimeterref16_CheckManifest.l0]
      rw [if_pos (by omega), if_pos (by omega), rdT_nat hlt]
      by_cases c1 : b[i].f0 < 1
      · rw [if_pos c1]; congr 1; unfold okB; rw [decide_eq_false (by omega)]; rfl
      · rw [if_neg c1]
        rcases Nat.eq_zero_or_pos i with hz | hz
        · have hl := hl0 hz
          rw [if_neg (by omega)]
          exact rest _ c1 (by omega)
        · have hi1 : i - 1 < b.length := by omega
          have hl := hl1 hz hi1
          have e1 : wrap64 ((i : Int) - 1) = ((i - 1 : Nat) : Int) := by rw [w64 (by omega) (by omega)]; omega
          rw [if_pos (by omega), e1, if_pos (by omega), if_pos (by omega), rdT_nat hi1, ← hl]
          by_cases c2 : b[i].f0 ≤ last
          · rw [if_pos c2]; congr 1; unfold okB; rw [decide_eq_false (p := last < b[i].f0) (by omega)]; simp
          · rw [if_neg c2]
            exact rest _ c1 c2
    · rw [ids]
      cases okB nx last b[i] <;> rfl
theorem rchk_j5 {i : Nat} (hi : i < b.length) (hn : b.length ≤ 140737488355328) (c : Bool) {r : Int} (h : c = false → Ev (fun k => lysimeterref16_CheckManifest.l1 k ((i + 1 : Nat) : Int) b nx lg lw) r) :
    Ev (fun k => lysimeterref16_CheckManifest.j5 k (i : Int) c b nx lg lw) (if c = true then 21 else r) := by
  cases c
  · refine Ev.step (f := fun k => lysimeterref16_CheckManifest.l1 k ((i + 1 : Nat) : Int) b nx lg lw) (fun k => ?_) (h rfl)
    simp only [lysimeterref16_CheckManifest.j5]
    rw [if_neg (by decide), wi1 hi hn]
  · refine Ev.step (f := fun _ => some 21) (fun k => ?_) (Ev.now _)
    simp only [lysimeterref16_CheckManifest.j5]
    rw [if_pos (by trivial)]
theorem rchk_l1 (hn : b.length ≤ 140737488355328) :
    ∀ (d i : Nat), i + d = b.length → Ev (fun k => lysimeterref16_CheckManifest.l1 k (i : Int) b nx lg lw) (if times (b.drop i) = true then 0 else 21) := by
  intro d
  induction d with
  | zero =>
    intro i hi
    rw [List.drop_of_length_le (by omega)]
    refine Ev.step (f := fun _ => some 0) (fun k => ?_) (Ev.now _)
    simp only [lysimeterref16_CheckManifest.l1]
    rw [if_neg (by omega)]
  | succ d ih =>
    intro i hi
    have hlt : i < b.length := by omega
    rw [List.drop_eq_getElem_cons hlt]
    refine Ev.step (f := fun k => lysimeterref16_CheckManifest.j5 k (i : Int) (!(okT b[i])) b nx lg lw) (fun k => ?_) (ev_eq (rchk_j5 hlt hn _ (fun _ => ih (i + 1) (by omega))) ?_)
    · simp only [lysimeterref16_CheckManifest.l1]
      rw [if_pos (by omega), if_pos (by omega), rdT_nat hlt]
      generalize b[i] = x
      unfold okT timedB
      by_cases c1 : x.f2 < -9007199254740992
      · rw [if_pos c1, decide_eq_false (p := -9007199254740992 ≤ x.f2) (by omega)]; rfl
      · rw [if_neg c1, decide_eq_true (p := -9007199254740992 ≤ x.f2) (by omega)]
        by_cases c2 : x.f2 > 9007199254740993
        · rw [if_pos c2, decide_eq_false (p := x.f2 ≤ 9007199254740993) (by omega)]; rfl
        · rw [if_neg c2, decide_eq_true (p := x.f2 ≤ 9007199254740993) (by omega)]
          by_cases c3 : x.f3 < -9007199254740992
          · rw [if_pos c3, decide_eq_false (p := -9007199254740992 ≤ x.f3) (by omega)]; rfl
          · rw [if_neg c3, decide_eq_true (p := -9007199254740992 ≤ x.f3) (by omega)]
            by_cases c4 : x.f3 > 9007199254740993
            · rw [if_pos c4, decide_eq_false (p := x.f3 ≤ 9007199254740993) (by omega)]; rfl
            · rw [if_neg c4, decide_eq_true (p := x.f3 ≤ 9007199254740993) (by omega)]
              by_cases c : x.f2 < x.f3
              · rw [decide_eq_true c, decide_eq_false (by omega)]; rfl
              · rw [decide_eq_false c, decide_eq_true (by omega)]; rfl
    · unfold times
      rw [List.all_cons]
      cases okT b[i] <;> rfl
theorem rchk_j3 (hn : b.length ≤ 140737488355328) (c : Bool) : Ev (fun k => lysimeterref16_CheckManifest.j3 k c b nx lg lw) (if c = true then 21 else if times b = true then 0 else 21) := by
  cases c
  · have h1 := rchk_l1 (b := b) (nx := nx) (lg := lg) (lw := lw) hn b.length 0 (by omega)
    refine Ev.step (f := fun k => lysimeterref16_CheckManifest.l1 k 0 b nx lg lw) (fun k => ?_) (ev_eq h1 (by rw [List.drop_zero]; rfl))
    simp only [lysimeterref16_CheckManifest.j3]
    rw [if_neg (by decide)]
  · refine Ev.step (f := fun _ => some 21) (fun k => ?_) (Ev.now _)
    simp only [lysimeterref16_CheckManifest.j3]
    rw [if_pos (by trivial)]
theorem rchk_j0 (hn : b.length ≤ 140737488355328) (c : Bool) : Ev (fun k => lysimeterref16_CheckManifest.j0 k c b nx lg lw) (if c = true then 1 else if ids nx 0 b = true then (if times b = true ∧ timedB lw = true then 0 else 21) else 1) := by
  cases c
  · have h2 := rchk_l0 (b := b) (nx := nx) (lg := lg) (lw := lw) hn (R := if times b = true ∧ timedB lw = true then 0 else 21) (fun i hi => ?_) b.length 0 0 (by omega) (fun _ => rfl) (fun h => absurd h (by omega))
    · refine Ev.step (f := fun k => lysimeterref16_CheckManifest.l0 k 0 b nx lg lw) (fun k => ?_) (ev_eq h2 (by rw [List.drop_zero]; rfl))
      simp only [lysimeterref16_CheckManifest.j0]
      rw [if_neg (by decide)]
    · refine Ev.step (f := fun k => lysimeterref16_CheckManifest.j3 k (!(timedB lw)) b nx lg lw) (fun k => ?_) (ev_eq (rchk_j3 hn _) ?_)
      · simp only [lysimeterref16_CheckManifest.l0]
        rw [if_neg hi]
        unfold timedB
        by_cases c1 : lw < -9007199254740992
        · rw [if_pos c1, decide_eq_false (p := -9007199254740992 ≤ lw) (by omega)]; rfl
        · rw [if_neg c1, decide_eq_true (p := -9007199254740992 ≤ lw) (by omega)]
          by_cases c2 : lw ≤ 9007199254740993
          · rw [decide_eq_true c2, decide_eq_false (by omega)]; rfl
          · rw [decide_eq_false c2, decide_eq_true (by omega)]; rfl
      · cases timedB lw <;> simp
  · refine Ev.step (f := fun _ => some 1) (fun k => ?_) (Ev.now _)
    simp only [lysimeterref16_CheckManifest.j0]
    rw [if_pos (by trivial)]
theorem rchk_ev (hn : b.length ≤ 140737488355328) : Ev (fun k => lysimeterref16_CheckManifest.f k b nx lg lw) (chk b nx lg lw) := by
  unfold lysimeterref16_CheckManifest.f chk
  by_cases c0 : b.length > 200
  · rw [if_pos c0]; exact ev_if_pos (by omega) (Ev.now _)
  · rw [if_neg c0]
    refine ev_if_neg (by omega) ?_
    by_cases c1 : nx < 1
    · rw [if_pos (.inl (.inl c1))]; exact ev_if_pos c1 (rchk_j0 hn true)
    · refine ev_if_neg c1 ?_
      by_cases c3 : lg < 1
      · rw [if_pos (.inr (.inl c3))]; exact ev_if_pos c3 (rchk_j0 hn true)
      · refine ev_if_neg c3 ?_
        by_cases c2 : nx > 1099511627776
        · rw [if_pos (.inl (.inr c2))]; exact ev_if_pos c2 (rchk_j0 hn true)
        · refine ev_if_neg c2 ?_
          by_cases c4 : lg > 1099511627776
          · rw [if_pos (.inr (.inr c4)), decide_eq_true c4]; exact rchk_j0 hn true
          · rw [if_neg (by omega), decide_eq_false c4]; exact rchk_j0 hn false
end
/-! ### one block more; blocks put together -/
def addV (b : List S52) (nx lg lw lv fr tt : Int) : List S52 × Int × Int × Int × Int × Int :=
  if chk (b ++ [(⟨nx, lv, fr, tt⟩ : S52)]) (wrap64 (nx + 1)) lg lw = 0 then (b ++ [(⟨nx, lv, fr, tt⟩ : S52)], wrap64 (nx + 1), lg, lw, nx, 0) else ([], 0, 0, 0, 0, chk (b ++ [(⟨nx, lv, fr, tt⟩ : S52)]) (wrap64 (nx + 1)) lg lw)
section
variable {b : List S52} {nx lg lw lv fr tt : Int}
theorem added_ev (hn : b.length ≤ 1000) : Ev (fun k => manifest_added.f k b nx lg lw lv fr tt) (addV b nx lg lw lv fr tt) := by
  unfold manifest_added.f addV
  refine ev_one_bind (a := b) ?_ (ev_if_pos (by omega) (ev_some_bind (Ev.bind (chk_ev (by simp; omega)) ?_)))
  · unfold api_Ref.f; exact if_pos (by omega)
  · by_cases c : chk (b ++ [(⟨nx, lv, fr, tt⟩ : S52)]) (wrap64 (nx + 1)) lg lw = 0
    · exact ev_eq (ev_if_pos c (Ev.now _)) (by rw [if_pos c])
    · exact ev_eq (ev_if_neg c (Ev.now _)) (by rw [if_neg c])
theorem add_ev (hn : b.length ≤ 1000) : Ev (fun k => manifest_Add.f k b nx lg lw lv fr tt) (if chk b nx lg lw = 0 then addV b nx lg lw lv fr tt else ([], 0, 0, 0, 0, chk b nx lg lw)) := by
  unfold manifest_Add.f
  refine Ev.bind (chk_ev (by omega)) ?_
  by_cases c : chk b nx lg lw = 0
  · rw [if_pos c]; exact ev_if_pos c (Ev.bind (added_ev hn) (Ev.now _))
  · rw [if_neg c]; exact ev_if_neg c (Ev.now _)
theorem radd_ev (hn : b.length ≤ 1000) : Ev (fun k => lysimeterref16_Add.f k b nx lg lw lv fr tt) (if chk b nx lg lw = 0 then addV b nx lg lw lv fr tt else ([], 0, 0, 0, 0, chk b nx lg lw)) := by
  unfold lysimeterref16_Add.f addV
  refine Ev.bind (rchk_ev (by omega)) ?_
  by_cases c : chk b nx lg lw = 0
  · rw [if_pos c]
    refine ev_if_pos c (ev_if_pos (by simp; omega) (ev_some_bind (ev_if_pos (by simp; omega) (ev_some_bind (Ev.bind (rchk_ev (by simp; omega)) ?_)))))
    rw [List.nil_append]
    by_cases c2 : chk (b ++ [(⟨nx, lv, fr, tt⟩ : S52)]) (wrap64 (nx + 1)) lg lw = 0
    · exact ev_eq (ev_if_pos c2 (Ev.now _)) (by rw [if_pos c2])
    · exact ev_eq (ev_if_neg c2 (Ev.now _)) (by rw [if_neg c2])
  · rw [if_neg c]; exact ev_if_neg c (Ev.now _)
end
/-! ### lists in which no number stands twice -/
theorem len_le_of_sub : ∀ {F D : List Int}, F.Nodup → (∀ x ∈ F, x ∈ D) → F.length ≤ D.length
  | [], D, _, _ => Nat.zero_le _
  | x :: F, D, hn, hs => by
    have hx : x ∈ D := hs x List.mem_cons_self
    have h1 := len_le_of_sub (F := F) (D := D.erase x) (List.nodup_cons.1 hn).2 (fun y hy => by
      refine (List.mem_erase_of_ne ?_).2 (hs y (List.mem_cons_of_mem _ hy))
      rintro rfl
      exact (List.nodup_cons.1 hn).1 hy)
    rw [List.length_erase_of_mem hx] at h1
    have : 0 < D.length := List.length_pos_of_mem hx
    rw [List.length_cons]; omega
def dd : List Int → List Int
  | [] => []
  | x :: l => if l.contains x = true then dd l else x :: dd l
theorem dd_len : ∀ l : List Int, (dd l).length = XH.SwapMap.dist l
  | [] => rfl
  | x :: l => by
    rw [dd, XH.SwapMap.dist]
    by_cases c : l.contains x = true
    · rw [if_pos c, if_pos c, dd_len l]
    · rw [if_neg c, if_neg c, List.length_cons, dd_len l]
theorem dd_mem {y : Int} : ∀ {l : List Int}, y ∈ dd l ↔ y ∈ l
  | [] => by simp [dd]
  | x :: l => by
    rw [dd]
    by_cases c : l.contains x = true
    · rw [if_pos c, dd_mem, List.mem_cons]
      refine ⟨.inr, fun h => h.elim (fun e => ?_) id⟩
      subst e
      exact List.contains_iff_mem.1 c
    · rw [if_neg c, List.mem_cons, List.mem_cons, dd_mem]
theorem dd_nodup : ∀ l : List Int, (dd l).Nodup
  | [] => List.nodup_nil
  | x :: l => by
    rw [dd]
    by_cases c : l.contains x = true
    · rw [if_pos c]; exact dd_nodup l
    · rw [if_neg c]
      exact List.nodup_cons.2 ⟨fun h => c (List.contains_iff_mem.2 (dd_mem.1 h)), dd_nodup l⟩
theorem ids_gt {nx : Int} : ∀ {last : Int} {b : List S52}, ids nx last b = true → ∀ x ∈ b, last < x.f0
  | _, [], _, x, hx => by cases hx
  | last, y :: b, h, x, hx => by
    simp only [ids, Bool.and_eq_true, okB, decide_eq_true_eq] at h
    rcases List.mem_cons.1 hx with rfl | hx
    · exact h.1.2.1
    · have := ids_gt h.2 x hx; omega
theorem ids_nodup {nx : Int} : ∀ {last : Int} {b : List S52}, ids nx last b = true → (b.map S52.f0).Nodup
  | _, [], _ => List.nodup_nil
  | last, y :: b, h => by
    have h0 := h
    simp only [ids, Bool.and_eq_true] at h
    rw [List.map_cons]
    refine List.nodup_cons.2 ⟨fun hm => ?_, ids_nodup h.2⟩
    obtain ⟨x, hx, e⟩ := List.mem_map.1 hm
    have := ids_gt h.2 x hx
    omega
theorem ids_filter {nx : Int} (p : S52 → Bool) : ∀ {last last' : Int} {b : List S52}, ids nx last b = true → last' ≤ last → ids nx last' (b.filter p) = true
  | _, _, [], _, _ => rfl
  | last, last', y :: b, h, hl => by
    simp only [ids, Bool.and_eq_true, okB, decide_eq_true_eq] at h
    rw [List.filter_cons]
    by_cases c : p y = true
    · rw [if_pos c]
      simp only [ids, Bool.and_eq_true, okB, decide_eq_true_eq]
      exact ⟨⟨h.1.1, by omega, h.1.2.2.1, h.1.2.2.2.1, h.1.2.2.2.2⟩, ids_filter p h.2 (Int.le_refl _)⟩
    · rw [if_neg c]
      exact ids_filter p h.2 (by have := h.1.2.1; omega)
theorem times_filter (p : S52 → Bool) {b : List S52} (h : times b = true) : times (b.filter p) = true := by
  unfold times at h ⊢
  rw [List.all_eq_true] at h ⊢
  exact fun x hx => h x (List.mem_filter.1 hx).1
theorem chk_zero {b : List S52} {nx lg lw : Int} (h : chk b nx lg lw = 0) : ids nx 0 b = true := by
  unfold chk at h
  by_cases c : ids nx 0 b = true
  · exact c
  · rw [if_neg c] at h
    split at h
    · cases h
    · split at h <;> cases h
theorem chk_filter {b : List S52} {nx lg lw : Int} (p : S52 → Bool) (h : chk b nx lg lw = 0) : chk (b.filter p) nx lg lw = 0 := by
  have hi := chk_zero h
  unfold chk at h ⊢
  rw [if_pos hi] at h
  rw [if_pos (ids_filter p hi (Int.le_refl _))]
  by_cases c1 : b.length > 200
  · rw [if_pos c1] at h; cases h
  · rw [if_neg c1] at h
    rw [if_neg (by have := List.length_filter_le p b; omega)]
    by_cases c2 : (nx < 1 ∨ nx > 1099511627776) ∨ (lg < 1 ∨ lg > 1099511627776)
    · rw [if_pos c2] at h; cases h
    · rw [if_neg c2] at h ⊢
      by_cases c3 : times b = true ∧ timedB lw = true
      · rw [if_pos ⟨times_filter p c3.1, c3.2⟩]
      · rw [if_neg c3] at h; cases h
def inB (b : List S52) (x : Int) : Bool := b.any fun y => y.f0 == x
theorem inB_mem {b : List S52} {x : Int} : inB b x = true ↔ x ∈ b.map S52.f0 := by
  unfold inB
  rw [List.any_eq_true, List.mem_map]
  exact ⟨fun ⟨y, hy, e⟩ => ⟨y, hy, beq_iff_eq.1 e⟩, fun ⟨y, hy, e⟩ => ⟨y, hy, beq_iff_eq.2 e⟩⟩
theorem found_len (L : List Int) (b : List S52) : b.length - (manifest_Swap.left L b).length = (b.filter (fun x => L.contains x.f0)).length := by
  unfold manifest_Swap.left
  induction b with
  | nil => rfl
  | cons x b ih =>
    have h1 := List.length_filter_le (fun x : S52 => !(L.contains x.f0)) b
    rw [List.filter_cons, List.filter_cons]
    cases c : L.contains x.f0
    · simp only [Bool.not_false, if_true, if_false, List.length_cons, Bool.false_eq_true] at ih ⊢; omega
    · simp only [Bool.not_true, if_true, if_false, List.length_cons, Bool.false_eq_true] at ih ⊢; omega
/-- Fewer blocks have gone than there are numbers just where a number is no block's. -/
theorem found_lt {nx : Int} {L : List Int} {b : List S52} (h : ids nx 0 b = true) : (b.length - (manifest_Swap.left L b).length < XH.SwapMap.dist L) ↔ L.all (inB b) = false := by
  rw [found_len, ← dd_len]
  have hF : ((b.filter (fun x => L.contains x.f0)).map S52.f0).Nodup := List.Nodup.sublist (List.Sublist.map _ (List.filter_sublist)) (ids_nodup h)
  have hl : ((b.filter (fun x => L.contains x.f0)).map S52.f0).length = (b.filter (fun x => L.contains x.f0)).length := List.length_map ..
  rw [← hl]
  have hmem : ∀ y, y ∈ (b.filter (fun x => L.contains x.f0)).map S52.f0 ↔ y ∈ L ∧ y ∈ b.map S52.f0 := fun y => by
    rw [List.mem_map, List.mem_map]
    constructor
    · rintro ⟨x, hx, rfl⟩
      obtain ⟨h1, h2⟩ := List.mem_filter.1 hx
      exact ⟨List.contains_iff_mem.1 h2, x, h1, rfl⟩
    · rintro ⟨h1, x, h2, rfl⟩
      exact ⟨x, List.mem_filter.2 ⟨h2, List.contains_iff_mem.2 h1⟩, rfl⟩
  cases c : L.all (inB b)
  · refine ⟨fun _ => rfl, fun _ => ?_⟩
    have hn : ¬ (∀ x, x ∈ L → inB b x = true) := fun hz => by rw [List.all_eq_true.2 hz] at c; cases c
    obtain ⟨y, hy⟩ : ∃ y, y ∈ L ∧ inB b y = false := by
      refine Classical.byContradiction fun hz => hn fun x hx => ?_
      cases hb : inB b x
      · exact absurd ⟨x, hx, hb⟩ hz
      · rfl
    have h1 := len_le_of_sub (D := (dd L).erase y) hF (fun z hz => by
      have h2 := (hmem z).1 hz
      refine (List.mem_erase_of_ne ?_).2 (dd_mem.2 h2.1)
      rintro rfl
      have := inB_mem.2 h2.2
      rw [hy.2] at this
      cases this)
    have hm := dd_mem.2 hy.1
    rw [List.length_erase_of_mem hm] at h1
    have := List.length_pos_of_mem hm
    omega
  · refine ⟨fun hlt => ?_, fun e => by cases e⟩
    have hall := List.all_eq_true.1 c
    have h1 := len_le_of_sub (D := (b.filter (fun x => L.contains x.f0)).map S52.f0) (dd_nodup L) (fun z hz => (hmem z).2 ⟨dd_mem.1 hz, inB_mem.1 (hall z (dd_mem.1 hz))⟩)
    omega
theorem tw_append (a l : List Int) (h : manifest_Swap.tw l = true) : manifest_Swap.tw (a ++ l) = true := by
  induction a with
  | nil => exact h
  | cons x a ih => rw [List.cons_append, manifest_Swap.tw, ih, Bool.true_or]
theorem tw_take {l : List Int} (i : Nat) (h : manifest_Swap.tw (l.take i).reverse = true) : manifest_Swap.tw l.reverse = true := by
  have : l.reverse = (l.drop i).reverse ++ (l.take i).reverse := by rw [← List.reverse_append, List.take_append_drop]
  rw [this]; exact tw_append _ _ h
theorem tw_snoc {l : List Int} {i : Nat} (h : i < l.length) : manifest_Swap.tw (l.take (i + 1)).reverse = (manifest_Swap.tw (l.take i).reverse || (l.take i).contains l[i]) := by
  rw [List.take_succ_eq_append_getElem h, List.reverse_append]
  show manifest_Swap.tw (l[i] :: (l.take i).reverse) = _
  rw [manifest_Swap.tw]
  congr 1
  rw [Bool.eq_iff_iff, List.contains_iff_mem, List.contains_iff_mem, List.mem_reverse]
section
variable {b : List S52} {nx lg lw lv fr tt : Int} {L : List Int}
abbrev V6 := List S52 × Int × Int × Int × Int × Int
theorem rsw_l1 (hb : b.length ≤ 1000) (hL : L.length ≤ 1000) {i : Nat} (hi : i < L.length) {r : V6} :
    ∀ (d j : Nat) (c : Bool), j + d = b.length → ((c || inB (b.drop j) L[i]) = true → Ev (fun k => lysimeterref16_Swap.l0 k L lv fr tt ((i + 1 : Nat) : Int) b nx lg lw) r) → ((c || inB (b.drop j) L[i]) = false → r = ([], 0, 0, 0, 0, 6)) →
      Ev (fun k => lysimeterref16_Swap.l1 k L lv fr tt (i : Int) c (j : Int) b nx lg lw) r := by
  intro d
  induction d with
  | zero =>
    intro j c hj h1 h0
    rw [List.drop_of_length_le (by omega)] at h1 h0
    cases c with
    | true =>
      refine Ev.step (f := fun k => lysimeterref16_Swap.l0 k L lv fr tt ((i + 1 : Nat) : Int) b nx lg lw) (fun k => ?_) (h1 rfl)
      simp only [lysimeterref16_Swap.l1]
      rw [if_neg (by omega), if_pos trivial, wi1 hi (by omega)]
    | false =>
      rw [h0 rfl]
      refine Ev.step (f := fun _ => some ([], 0, 0, 0, 0, 6)) (fun k => ?_) (Ev.now _)
      simp only [lysimeterref16_Swap.l1]
      rw [if_neg (by omega), if_neg (by decide)]
  | succ d ih =>
    intro j c hj h1 h0
    have hlt : j < b.length := by omega
    rw [List.drop_eq_getElem_cons hlt] at h1 h0
    have hc : inB (b[j] :: b.drop (j + 1)) L[i] = ((b[j].f0 == L[i]) || inB (b.drop (j + 1)) L[i]) := by unfold inB; rw [List.any_cons]
    rw [hc] at h1 h0
    cases c with
    | true =>
      refine Ev.step (f := fun k => lysimeterref16_Swap.l1 k L lv fr tt (i : Int) true ((j + 1 : Nat) : Int) b nx lg lw) (fun k => ?_) (ih (j + 1) true (by omega) (fun _ => h1 rfl) (fun e => by cases e))
      simp only [lysimeterref16_Swap.l1]
      rw [if_pos (by omega), if_pos trivial, wi1 hlt (by omega)]
    | false =>
      refine Ev.step (f := fun k => lysimeterref16_Swap.l1 k L lv fr tt (i : Int) (b[j].f0 == L[i]) ((j + 1 : Nat) : Int) b nx lg lw) (fun k => ?_) (ih (j + 1) _ (by omega) h1 h0)
      simp only [lysimeterref16_Swap.l1]
      rw [if_pos (by omega), if_neg (by decide), if_pos (by omega), if_pos (by omega), if_pos (by omega), rdT_nat hlt, rd_nat hi, wi1 hlt (by omega)]
theorem rsw_l0 (hb : b.length ≤ 1000) (hL : L.length ≤ 1000) {r : V6} :
    ∀ (d i : Nat), i + d = L.length → ((L.drop i).all (inB b) = true → Ev (fun k => lysimeterref16_Swap.l2 k L lv fr tt 0 b nx lg lw) r) → ((L.drop i).all (inB b) = false → r = ([], 0, 0, 0, 0, 6)) →
      Ev (fun k => lysimeterref16_Swap.l0 k L lv fr tt (i : Int) b nx lg lw) r := by
  intro d
  induction d with
  | zero =>
    intro i hi h1 h0
    rw [List.drop_of_length_le (by omega)] at h1
    refine Ev.step (f := fun k => lysimeterref16_Swap.l2 k L lv fr tt 0 b nx lg lw) (fun k => ?_) (h1 rfl)
    simp only [lysimeterref16_Swap.l0]
    rw [if_neg (by omega)]
  | succ d ih =>
    intro i hi h1 h0
    have hlt : i < L.length := by omega
    rw [List.drop_eq_getElem_cons hlt, List.all_cons] at h1 h0
    refine Ev.step (f := fun k => lysimeterref16_Swap.l1 k L lv fr tt (i : Int) false 0 b nx lg lw) (fun k => ?_) (rsw_l1 hb hL hlt b.length 0 false (by omega) (fun hin => ?_) (fun hin => ?_))
    · simp only [lysimeterref16_Swap.l0]
      rw [if_pos (by omega)]
    · rw [Bool.false_or, List.drop_zero] at hin
      rw [hin, Bool.true_and] at h1 h0
      exact ih (i + 1) (by omega) h1 h0
    · rw [Bool.false_or, List.drop_zero] at hin
      rw [hin, Bool.false_and] at h0
      exact h0 rfl
theorem rsw_l3 (hL : L.length ≤ 1000) {i : Nat} (hi : i < L.length) {r : V6} :
    ∀ (d j : Nat), j + d = i → (((L.take i).drop j).contains L[i] = true → r = ([], 0, 0, 0, 0, 1)) → (((L.take i).drop j).contains L[i] = false → Ev (fun k => lysimeterref16_Swap.l2 k L lv fr tt ((i + 1 : Nat) : Int) b nx lg lw) r) →
      Ev (fun k => lysimeterref16_Swap.l3 k L lv fr tt (i : Int) (j : Int) b nx lg lw) r := by
  intro d
  induction d with
  | zero =>
    intro j hj h1 h0
    rw [List.drop_of_length_le (by rw [List.length_take]; omega)] at h0
    refine Ev.step (f := fun k => lysimeterref16_Swap.l2 k L lv fr tt ((i + 1 : Nat) : Int) b nx lg lw) (fun k => ?_) (h0 rfl)
    simp only [lysimeterref16_Swap.l3]
    rw [if_neg (by omega), wi1 hi (by omega)]
  | succ d ih =>
    intro j hj h1 h0
    have hlt : j < L.length := by omega
    have hlt' : j < (L.take i).length := by rw [List.length_take]; omega
    rw [List.drop_eq_getElem_cons hlt', List.contains_cons, List.getElem_take] at h1 h0
    by_cases c : L[i] = L[j]
    · rw [h1 (by rw [beq_iff_eq.2 c, Bool.true_or])]
      refine Ev.step (f := fun _ => some ([], 0, 0, 0, 0, 1)) (fun k => ?_) (Ev.now _)
      simp only [lysimeterref16_Swap.l3]
      rw [if_pos (by omega), if_pos (by omega), if_pos (by omega), if_pos (by omega), if_pos (by omega), rd_nat hi, rd_nat hlt, if_pos c]
    · rw [beq_eq_false_iff_ne.2 c, Bool.false_or] at h1 h0
      refine Ev.step (f := fun k => lysimeterref16_Swap.l3 k L lv fr tt (i : Int) ((j + 1 : Nat) : Int) b nx lg lw) (fun k => ?_) (ih (j + 1) (by omega) h1 h0)
      simp only [lysimeterref16_Swap.l3]
      rw [if_pos (by omega), if_pos (by omega), if_pos (by omega), if_pos (by omega), if_pos (by omega), rd_nat hi, rd_nat hlt, if_neg c, wi1 hlt (by omega)]
theorem rsw_l2 (hL : L.length ≤ 1000) {r : V6} (h1 : manifest_Swap.tw L.reverse = true → r = ([], 0, 0, 0, 0, 1)) (h0 : manifest_Swap.tw L.reverse = false → Ev (fun k => lysimeterref16_Swap.l4 k L lv fr tt 0 b nx lg lw [] nx lg lw) r) :
    ∀ (d i : Nat), i + d = L.length → manifest_Swap.tw (L.take i).reverse = false → Ev (fun k => lysimeterref16_Swap.l2 k L lv fr tt (i : Int) b nx lg lw) r := by
  intro d
  induction d with
  | zero =>
    intro i hi ht
    rw [List.take_of_length_le (by omega)] at ht
    refine Ev.step (f := fun k => lysimeterref16_Swap.l4 k L lv fr tt 0 b nx lg lw [] nx lg lw) (fun k => ?_) (h0 ht)
    simp only [lysimeterref16_Swap.l2]
    rw [if_neg (by omega)]
  | succ d ih =>
    intro i hi ht
    have hlt : i < L.length := by omega
    refine Ev.step (f := fun k => lysimeterref16_Swap.l3 k L lv fr tt (i : Int) 0 b nx lg lw) (fun k => ?_) (rsw_l3 hL hlt i 0 (by omega) (fun hc => h1 (tw_take (i + 1) ?_)) (fun hc => ih (i + 1) (by omega) ?_))
    · simp only [lysimeterref16_Swap.l2]
      rw [if_pos (by omega)]
    · rw [List.drop_zero] at hc
      rw [tw_snoc hlt, hc, Bool.or_true]
    · rw [List.drop_zero] at hc
      rw [tw_snoc hlt, hc, ht]; rfl
theorem rsw_l5 (hb : b.length ≤ 1000) (hL : L.length ≤ 1000) {i : Nat} (hi : i < b.length) {acc : List S52} (ha : acc.length ≤ 1000) {r : V6} :
    ∀ (d j : Nat) (c : Bool), j + d = L.length → ((c || (L.drop j).contains b[i].f0) = true → Ev (fun k => lysimeterref16_Swap.l4 k L lv fr tt ((i + 1 : Nat) : Int) b nx lg lw acc nx lg lw) r) →
      ((c || (L.drop j).contains b[i].f0) = false → Ev (fun k => lysimeterref16_Swap.l4 k L lv fr tt ((i + 1 : Nat) : Int) b nx lg lw (acc ++ [b[i]]) nx lg lw) r) →
      Ev (fun k => lysimeterref16_Swap.l5 k L lv fr tt (i : Int) c (j : Int) b nx lg lw acc nx lg lw) r := by
  intro d
  induction d with
  | zero =>
    intro j c hj h1 h0
    rw [List.drop_of_length_le (by omega)] at h1 h0
    cases c with
    | true =>
      refine Ev.step (f := fun k => lysimeterref16_Swap.l4 k L lv fr tt ((i + 1 : Nat) : Int) b nx lg lw acc nx lg lw) (fun k => ?_) (h1 rfl)
      simp only [lysimeterref16_Swap.l5]
      rw [if_neg (by omega), if_pos trivial, wi1 hi (by omega)]
    | false =>
      refine Ev.step (f := fun k => lysimeterref16_Swap.l4 k L lv fr tt ((i + 1 : Nat) : Int) b nx lg lw (acc ++ [b[i]]) nx lg lw) (fun k => ?_) (h0 rfl)
      simp only [lysimeterref16_Swap.l5]
      rw [if_neg (by omega), if_neg (by decide), if_pos (by omega), if_pos (by omega), if_pos (by omega), rdT_nat hi, wi1 hi (by omega)]
  | succ d ih =>
    intro j c hj h1 h0
    have hlt : j < L.length := by omega
    rw [List.drop_eq_getElem_cons hlt, List.contains_cons] at h1 h0
    have hsym : (b[i].f0 == L[j]) = (L[j] == b[i].f0) := by rw [Bool.eq_iff_iff, beq_iff_eq, beq_iff_eq]; exact eq_comm
    rw [hsym] at h1 h0
    cases c with
    | true =>
      refine Ev.step (f := fun k => lysimeterref16_Swap.l5 k L lv fr tt (i : Int) true ((j + 1 : Nat) : Int) b nx lg lw acc nx lg lw) (fun k => ?_) (ih (j + 1) true (by omega) (fun _ => h1 rfl) (fun e => by cases e))
      simp only [lysimeterref16_Swap.l5]
      rw [if_pos (by omega), if_pos trivial, wi1 hlt (by omega)]
    | false =>
      refine Ev.step (f := fun k => lysimeterref16_Swap.l5 k L lv fr tt (i : Int) (L[j] == b[i].f0) ((j + 1 : Nat) : Int) b nx lg lw acc nx lg lw) (fun k => ?_) (ih (j + 1) _ (by omega) h1 h0)
      simp only [lysimeterref16_Swap.l5]
      rw [if_pos (by omega), if_neg (by decide), if_pos (by omega), if_pos (by omega), if_pos (by omega), rdT_nat hi, rd_nat hlt, wi1 hlt (by omega)]
theorem rsw_l4 (hb : b.length ≤ 1000) (hL : L.length ≤ 1000) {r : V6} (hend : Ev (fun k => lysimeterref16_Add.f k (manifest_Swap.left L b) nx lg lw lv fr tt) r) :
    ∀ (d i : Nat), i + d = b.length → Ev (fun k => lysimeterref16_Swap.l4 k L lv fr tt (i : Int) b nx lg lw (manifest_Swap.left L (b.take i)) nx lg lw) r := by
  intro d
  induction d with
  | zero =>
    intro i hi
    rw [List.take_of_length_le (by omega)]
    refine Ev.step (f := fun k => (lysimeterref16_Add.f k (manifest_Swap.left L b) nx lg lw lv fr tt).bind fun bt => some (bt.1, bt.2.1, bt.2.2.1, bt.2.2.2.1, bt.2.2.2.2.1, bt.2.2.2.2.2)) (fun k => ?_) (Ev.bind hend (Ev.now _))
    simp only [lysimeterref16_Swap.l4]
    rw [if_neg (by omega)]
  | succ d ih =>
    intro i hi
    have hlt : i < b.length := by omega
    have hs : manifest_Swap.left L (b.take (i + 1)) = manifest_Swap.left L (b.take i) ++ (if L.contains b[i].f0 then [] else [b[i]]) := by
      rw [List.take_succ_eq_append_getElem hlt, manifest_Swap.left_snoc]
    have hlen := manifest_Swap.left_le L (b.take i)
    rw [List.length_take] at hlen
    have h1 := ih (i + 1) (by omega)
    refine Ev.step (f := fun k => lysimeterref16_Swap.l5 k L lv fr tt (i : Int) false 0 b nx lg lw (manifest_Swap.left L (b.take i)) nx lg lw) (fun k => ?_) (rsw_l5 hb hL hlt (by omega) L.length 0 false (by omega) (fun hc => ?_) (fun hc => ?_))
    · simp only [lysimeterref16_Swap.l4]
      rw [if_pos (by omega)]
    · rw [Bool.false_or, List.drop_zero] at hc
      rw [hs, if_pos hc, List.append_nil] at h1
      exact h1
    · rw [Bool.false_or, List.drop_zero] at hc
      rw [hs, if_neg (by rw [hc]; decide)] at h1
      exact h1
def swapV (b : List S52) (nx lg lw : Int) (L : List Int) (lv fr tt : Int) : V6 :=
  if chk b nx lg lw = 0 then
    (if L.length = 0 then ([], 0, 0, 0, 0, 6) else if L.all (inB b) = false then ([], 0, 0, 0, 0, 6) else if manifest_Swap.tw L.reverse = true then ([], 0, 0, 0, 0, 1) else addV (manifest_Swap.left L b) nx lg lw lv fr tt)
  else ([], 0, 0, 0, 0, chk b nx lg lw)
theorem swap_ev (hb : b.length ≤ 1000) (hL : L.all (fun x => (Lit.int .i64 x).wf) = true) (hw : b.all (fun x => (Lit.int .i64 x.f0).wf) = true) : Ev (fun k => manifest_Swap.f k b nx lg lw L lv fr tt) (swapV b nx lg lw L lv fr tt) := by
  unfold manifest_Swap.f swapV
  refine Ev.bind (chk_ev (by omega)) ?_
  by_cases c : chk b nx lg lw = 0
  · rw [if_pos c]
    have hf : (b.length - (manifest_Swap.left L b).length < XH.SwapMap.dist L.reverse) ↔ L.all (inB b) = false := by
      have h1 := found_lt (L := L.reverse) (chk_zero c)
      rw [List.all_reverse] at h1
      have h2 : manifest_Swap.left L.reverse b = manifest_Swap.left L b := by
        unfold manifest_Swap.left
        congr 1
        funext x
        rw [show L.reverse.contains x.f0 = L.contains x.f0 from by rw [Bool.eq_iff_iff, List.contains_iff_mem, List.contains_iff_mem, List.mem_reverse]]
      rw [h2] at h1
      exact h1
    refine ev_if_pos c (ev_if_pos ⟨hL, hw, by omega⟩ ?_)
    by_cases c1 : L.length = 0
    · rw [if_pos c1]; exact ev_if_pos (.inl c1) (Ev.now _)
    · rw [if_neg c1]
      by_cases c2 : L.all (inB b) = false
      · rw [if_pos c2]; exact ev_if_pos (.inr (hf.2 c2)) (Ev.now _)
      · rw [if_neg c2]
        refine ev_if_neg (fun z => z.elim c1 (fun y => c2 (hf.1 y))) ?_
        by_cases c3 : manifest_Swap.tw L.reverse = true
        · rw [if_pos c3]; exact ev_if_pos c3 (Ev.now _)
        · rw [if_neg c3]; exact ev_if_neg c3 (added_ev (Nat.le_trans (manifest_Swap.left_le _ _) hb))
  · rw [if_neg c]; exact ev_if_neg c (Ev.now _)
theorem rswap_ev (hb : b.length ≤ 1000) (hL : L.length ≤ 1000) : Ev (fun k => lysimeterref16_Swap.f k b nx lg lw L lv fr tt) (swapV b nx lg lw L lv fr tt) := by
  unfold lysimeterref16_Swap.f swapV
  refine Ev.bind (rchk_ev (by omega)) ?_
  by_cases c : chk b nx lg lw = 0
  · rw [if_pos c]
    refine ev_if_pos c ?_
    by_cases c1 : L.length = 0
    · rw [if_pos c1]; exact ev_if_pos (by omega) (Ev.now _)
    · rw [if_neg c1]
      refine ev_if_neg (by omega) (rsw_l0 hb hL L.length 0 (by omega) (fun ha => ?_) (fun ha => ?_))
      · rw [List.drop_zero] at ha
        rw [if_neg (by rw [ha]; decide)]
        refine rsw_l2 hL (fun ht => by rw [if_pos ht]) (fun ht => ?_) L.length 0 (by omega) rfl
        rw [if_neg (by rw [ht]; decide)]
        have h4 := rsw_l4 (nx := nx) (lg := lg) (lw := lw) (lv := lv) (fr := fr) (tt := tt) hb hL (r := addV (manifest_Swap.left L b) nx lg lw lv fr tt) ?_ b.length 0 (by omega)
        · exact h4
        · have h5 := radd_ev (b := manifest_Swap.left L b) (nx := nx) (lg := lg) (lw := lw) (lv := lv) (fr := fr) (tt := tt) (Nat.le_trans (manifest_Swap.left_le _ _) hb)
          rw [if_pos (show chk (manifest_Swap.left L b) nx lg lw = 0 from chk_filter _ c)] at h5
          exact h5
      · rw [List.drop_zero] at ha
        rw [if_pos ha]
  · rw [if_neg c]; exact ev_if_neg c (Ev.now _)
theorem sm_l0 (hb : b.length ≤ 2000) : ∀ (d i : Nat), i + d = b.length → Ev (fun k => lysimeterref16_SameManifest.l0 k (i : Int) b nx lg lw b nx lg lw) true := by
  intro d
  induction d with
  | zero =>
    intro i hi
    refine Ev.step (f := fun _ => some true) (fun k => ?_) (Ev.now _)
    simp only [lysimeterref16_SameManifest.l0]
    rw [if_neg (by omega)]
  | succ d ih =>
    intro i hi
    have hlt : i < b.length := by omega
    refine Ev.step (f := fun k => lysimeterref16_SameManifest.l0 k ((i + 1 : Nat) : Int) b nx lg lw b nx lg lw) (fun k => ?_) (ih (i + 1) (by omega))
    simp only [lysimeterref16_SameManifest.l0]
    rw [if_pos (by omega), if_pos (by omega), if_pos (by omega), if_neg (by simp), wi1 hlt (by omega)]
theorem sm_self (hb : b.length ≤ 2000) : Ev (fun k => lysimeterref16_SameManifest.f k b nx lg lw b nx lg lw) true := by
  unfold lysimeterref16_SameManifest.f
  refine ev_if_pos rfl (ev_if_pos rfl (ev_if_pos rfl ?_))
  rw [bne_self_eq_false]
  refine Ev.step (f := fun k => lysimeterref16_SameManifest.l0 k 0 b nx lg lw b nx lg lw) (fun k => ?_) (sm_l0 hb b.length 0 (by omega))
  simp only [lysimeterref16_SameManifest.j0]
  rw [if_neg (by decide)]
end
theorem alive17_ev : Ev (fun k => lysimeterlaw17_alive.f k) true := Ev.of lysimeterlaw17_alive.mono (k := 60) (by decide +kernel)
theorem addV_len (b : List S52) (nx lg lw lv fr tt : Int) : (addV b nx lg lw lv fr tt).1.length ≤ b.length + 1 := by
  unfold addV
  split <;> simp
theorem ManifestTurns : lysimeterlaw17_ManifestTurns.Pure := by
  intro b nx lg lw L lv fr tt hb _ _ _ _ _ hL _ _ _
  refine Ev.rounds (g := fun k => lysimeterlaw17_ManifestTurns.f k b nx lg lw L lv fr tt) ?_
  unfold lysimeterlaw17_ManifestTurns.f
  refine Ev.bind alive17_ev (ev_if_pos rfl ?_)
  by_cases c : 400 < b.length ∨ 400 < L.length
  · exact ev_if_pos c (Ev.now _)
  · refine ev_if_neg c ?_
    have hb4 : b.length ≤ 400 := by omega
    have hL4 : L.length ≤ 400 := by omega
    have hw1 : L.all (fun x => (Lit.int .i64 x).wf) = true := List.all_eq_true.2 hL
    have hw2 : b.all (fun x => (Lit.int .i64 x.f0).wf) = true := List.all_eq_true.2 (fun x hx => (hb.2 x hx).1)
    have hA : (if chk b nx lg lw = 0 then addV b nx lg lw lv fr tt else ([], 0, 0, 0, 0, chk b nx lg lw)).1.length ≤ 2000 := by
      split
      · have := addV_len b nx lg lw lv fr tt; omega
      · exact Nat.zero_le _
    have hC : (swapV b nx lg lw L lv fr tt).1.length ≤ 2000 := by
      unfold swapV
      split
      · split
        · exact Nat.zero_le _
        · split
          · exact Nat.zero_le _
          · split
            · exact Nat.zero_le _
            · have := addV_len (manifest_Swap.left L b) nx lg lw lv fr tt; have := manifest_Swap.left_le L b; omega
      · exact Nat.zero_le _
    refine Ev.bind (add_ev (by omega)) (Ev.bind (radd_ev (by omega)) (Ev.bind (swap_ev (by omega) hw1 hw2) (Ev.bind (rswap_ev (by omega) (by omega)) (Ev.bind (sm_self (by omega)) (Ev.bind (sm_self hA) (Ev.bind (sm_self hC) (ev_if_pos ?_ (Ev.now _))))))))
    simp only [beq_self_eq_true, Bool.and_true, Bool.true_and]
    exact lysimeterlaw17_ManifestTurns.eqs_refl _

end Go.Proofs.Ytjilnpbgclnecab.Pure
