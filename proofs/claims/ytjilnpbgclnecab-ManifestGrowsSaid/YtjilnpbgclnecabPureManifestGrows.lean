/- Blocks that are added one by one, and put together by fours as they are picked, leave at most three of each level, and none is lost (statement ManifestGrows); no condition. -/
import Derived.Test.YtjilnpbgclnecabPManifestGrowsx4
import Derived.Test.YtjilnpbgclnecabXPure
set_option linter.unusedVariables false
set_option linter.unusedSimpArgs false
namespace Go.Proofs.Ytjilnpbgclnecab.Pure
open Go Go.RowKit Go.Proofs.Ytjilnpbgclnecab.PManifestGrows Go.Proofs.Ytjilnpbgclnecab.XP Go.Proofs.YtjilnpbgclnecabW.PrintWords Go.Proofs.YtjilnpbgclnecabW.PrintLast Go.Proofs.YtjilnpbgclnecabW.PrintMore

theorem wi1 {i n : Nat} (h : i < n) (hn : n ≤ 140737488355328) : wrap64 ((i : Int) + 1) = ((i + 1 : Nat) : Int) := by rw [w64 (by omega) (by omega)]; omega
/-! ### what a manifest is asked -/
theorem rdT_nat {l : List S52} {i : Nat} (h : i < l.length) : rd_T52 l (i : Int) = l[i] := by
  unfold rd_T52
  rw [Int.toNat_natCast, List.getD_eq_getElem?_getD, List.getElem?_eq_getElem h]; rfl
def okB (nx last : Int) (x : S52) : Bool := decide (1 ≤ x.f0) && (decide (last < x.f0) && (decide (x.f0 < nx) && (decide (0 ≤ x.f1) && decide (x.f1 ≤ 20))))
def ids (nx : Int) : Int → List S52 → Bool
  | _, [] => true
  | last, x :: l => okB nx last x && ids nx x.f0 l
def timedB (a : Int) : Bool := decide (-9007199254740992 ≤ a) && decide (a ≤ 9007199254740993)
def okT (x : S52) : Bool := timedB x.f2 && (timedB x.f3 && decide (x.f2 < x.f3))
def times (l : List S52) : Bool := l.all okT
def chk (b : List S52) (nx lg lw : Int) : Int :=
  if b.length > 200 then 2 else if (nx < 1 ∨ nx > 1099511627776) ∨ (lg < 1 ∨ lg > 1099511627776) then 1 else if ids nx 0 b = true then (if times b = true ∧ timedB lw = true then 0 else 21) else 1
theorem timed_ev (a : Int) : manifest_timed.f a = some (timedB a) := by
  unfold manifest_timed.f timedB
  by_cases h : a ≥ -9007199254740992
  · rw [if_pos h, decide_eq_true (show -9007199254740992 ≤ a from h), Bool.true_and]
  · rw [if_neg h, decide_eq_false (show ¬ -9007199254740992 ≤ a from h), Bool.false_and]
section
variable {b : List S52} {nx lg lw : Int}
theorem chk_j2 {l : List S52} {i : Nat} (hi : i < l.length) (hn : l.length ≤ 140737488355328) {y0 y1 y2 y3 : Int} (c : Bool) {r : Int} (h : c = false → Ev (fun k => manifest_Check.l0 k y0 l (l.length : Int) ((i + 1 : Nat) : Int) b nx lg lw) r) :
    Ev (fun k => manifest_Check.j2 k l (l.length : Int) (i : Int) c b nx lg lw y0 y1 y2 y3) (if c = true then 1 else r) := by
  cases c
  · refine Ev.step (f := fun k => manifest_Check.l0 k y0 l (l.length : Int) ((i + 1 : Nat) : Int) b nx lg lw) (fun k => ?_) (h rfl)
    simp only [manifest_Check.j2]
    rw [if_neg (by decide), wi1 hi hn]
  · refine Ev.step (f := fun _ => some 1) (fun k => ?_) (Ev.now _)
    simp only [manifest_Check.j2]
    rw [if_pos (by trivial)]
theorem chk_l0 (l : List S52) (hn : l.length ≤ 140737488355328) {R : Int} (hend : ∀ last i : Int, ¬ i < (l.length : Int) → Ev (fun k => manifest_Check.l0 k last l (l.length : Int) i b nx lg lw) R) :
    ∀ (d i : Nat) (last : Int), i + d = l.length → Ev (fun k => manifest_Check.l0 k last l (l.length : Int) (i : Int) b nx lg lw) (if ids nx last (l.drop i) = true then R else 1) := by
  intro d
  induction d with
  | zero =>
    intro i last hi
    rw [List.drop_of_length_le (by omega)]
    exact hend _ _ (by omega)
  | succ d ih =>
    intro i last hi
    have hlt : i < l.length := by omega
    rw [List.drop_eq_getElem_cons hlt]
    have h1 := ih (i + 1) l[i].f0 (by omega)
    refine Ev.step (f := fun k => manifest_Check.j2 k l (l.length : Int) (i : Int) (!(okB nx last l[i])) b nx lg lw l[i].f0 l[i].f1 l[i].f2 l[i].f3) (fun k => ?_) (ev_eq (chk_j2 hlt hn _ (fun _ => h1)) ?_)
    · simp only [manifest_Check.l0]
      rw [if_pos (by omega), if_pos (by omega), if_pos (by omega), rdT_nat hlt]
      generalize l[i] = x
      by_cases c1 : x.f0 < 1
      · rw [if_pos c1]; congr 1; unfold okB; rw [decide_eq_false (by omega)]; rfl
      · rw [if_neg c1]
        by_cases c2 : x.f0 ≤ last
        · rw [if_pos c2]; congr 1; unfold okB; rw [decide_eq_false (p := last < x.f0) (by omega)]; simp
        · rw [if_neg c2]
          by_cases c3 : x.f0 ≥ nx
          · rw [if_pos c3]; congr 1; unfold okB; rw [decide_eq_false (p := x.f0 < nx) (by omega)]; simp
          · rw [if_neg c3]
            by_cases c4 : x.f1 < 0
            · rw [if_pos c4]; congr 1; unfold okB; rw [decide_eq_false (p := 0 ≤ x.f1) (by omega)]; simp
            · rw [if_neg c4]; congr 1; unfold okB
              rw [decide_eq_true (p := 1 ≤ x.f0) (by omega), decide_eq_true (p := last < x.f0) (by omega), decide_eq_true (p := x.f0 < nx) (by omega), decide_eq_true (p := 0 ≤ x.f1) (by omega)]
              by_cases c5 : x.f1 ≤ 20
              · rw [decide_eq_true c5, decide_eq_false (by omega)]; rfl
              · rw [decide_eq_false c5, decide_eq_true (by omega)]; rfl
    · rw [ids]
      cases okB nx last l[i] <;> rfl
theorem chk_j4 {l : List S52} {i : Nat} (hi : i < l.length) (hn : l.length ≤ 140737488355328) (c : Bool) {r : Int} (h : c = false → Ev (fun k => manifest_Check.l1 k l (l.length : Int) ((i + 1 : Nat) : Int) b nx lg lw) r) :
    Ev (fun k => manifest_Check.j4 k l (l.length : Int) (i : Int) c b nx lg lw) (if c = true then 21 else r) := by
  cases c
  · refine Ev.step (f := fun k => manifest_Check.l1 k l (l.length : Int) ((i + 1 : Nat) : Int) b nx lg lw) (fun k => ?_) (h rfl)
    simp only [manifest_Check.j4]
    rw [if_neg (by decide), wi1 hi hn]
  · refine Ev.step (f := fun _ => some 21) (fun k => ?_) (Ev.now _)
    simp only [manifest_Check.j4]
    rw [if_pos (by trivial)]
theorem chk_l1 (l : List S52) (hn : l.length ≤ 140737488355328) :
    ∀ (d i : Nat), i + d = l.length → Ev (fun k => manifest_Check.l1 k l (l.length : Int) (i : Int) b nx lg lw) (if times (l.drop i) = true ∧ timedB lw = true then 0 else 21) := by
  intro d
  induction d with
  | zero =>
    intro i hi
    rw [List.drop_of_length_le (by omega)]
    refine Ev.step (f := fun _ => some (if timedB lw = true then 0 else 21)) (fun k => ?_) (ev_eq (Ev.now _) (by simp [times]))
    simp only [manifest_Check.l1, timed_ev, Option.bind_some]
    rw [if_neg (by omega)]
    split <;> rfl
  | succ d ih =>
    intro i hi
    have hlt : i < l.length := by omega
    rw [List.drop_eq_getElem_cons hlt]
    refine Ev.step (f := fun k => manifest_Check.j4 k l (l.length : Int) (i : Int) (!(okT l[i])) b nx lg lw) (fun k => ?_) (ev_eq (chk_j4 hlt hn _ (fun _ => ih (i + 1) (by omega))) ?_)
    · simp only [manifest_Check.l1, timed_ev, Option.bind_some]
      rw [if_pos (by omega), if_pos (by omega), if_pos (by omega), rdT_nat hlt]
      generalize l[i] = x
      unfold okT
      cases timedB x.f2
      · rw [if_neg (by decide)]; rfl
      · rw [if_pos rfl]
        cases timedB x.f3
        · rw [if_neg (by decide)]; rfl
        · rw [if_pos rfl]; congr 1
          by_cases c : x.f2 < x.f3
          · rw [decide_eq_true c, decide_eq_false (by omega)]; rfl
          · rw [decide_eq_false c, decide_eq_true (by omega)]; rfl
    · unfold times
      rw [List.all_cons]
      cases okT l[i] <;> rfl
theorem chk_j0 (hn : b.length ≤ 140737488355328) (c : Bool) : Ev (fun k => manifest_Check.j0 k c b nx lg lw) (if c = true then 1 else if ids nx 0 b = true then (if times b = true ∧ timedB lw = true then 0 else 21) else 1) := by
  cases c
  · have h1 := chk_l1 (b := b) (nx := nx) (lg := lg) (lw := lw) b hn b.length 0 (by omega)
    rw [List.drop_zero] at h1
    have h2 := chk_l0 (b := b) (nx := nx) (lg := lg) (lw := lw) b hn (R := if times b = true ∧ timedB lw = true then 0 else 21) (fun last i hi => ?_) b.length 0 0 (by omega)
    · refine Ev.step (f := fun k => manifest_Check.l0 k 0 b (b.length : Int) 0 b nx lg lw) (fun k => ?_) (ev_eq h2 (by rw [List.drop_zero]; rfl))
      simp only [manifest_Check.j0]
      rw [if_neg (by decide)]
    · refine Ev.step (f := fun k => manifest_Check.l1 k b (b.length : Int) 0 b nx lg lw) (fun k => ?_) h1
      simp only [manifest_Check.l0]
      rw [if_neg hi]
  · refine Ev.step (f := fun _ => some 1) (fun k => ?_) (Ev.now _)
    simp only [manifest_Check.j0]
    rw [if_pos (by trivial)]
theorem chk_ev (hn : b.length ≤ 140737488355328) : Ev (fun k => manifest_Check.f k b nx lg lw) (chk b nx lg lw) := by
  unfold manifest_Check.f chk
  by_cases c0 : b.length > 200
  · rw [if_pos c0]; exact ev_if_pos (by omega) (Ev.now _)
  · rw [if_neg c0]
    refine ev_if_neg (by omega) ?_
    by_cases c1 : nx < 1
    · rw [if_pos (.inl (.inl c1))]; exact ev_if_pos c1 (chk_j0 hn true)
    · refine ev_if_neg c1 ?_
      by_cases c2 : nx > 1099511627776
      · rw [if_pos (.inl (.inr c2))]; exact ev_if_pos c2 (chk_j0 hn true)
      · refine ev_if_neg c2 ?_
        by_cases c3 : lg < 1
        · rw [if_pos (.inr (.inl c3))]; exact ev_if_pos c3 (chk_j0 hn true)
        · refine ev_if_neg c3 ?_
          by_cases c4 : lg > 1099511627776
          · rw [if_pos (.inr (.inr c4)), decide_eq_true c4]; exact chk_j0 hn true
          · rw [if_neg (by omega), decide_eq_false c4]; exact chk_j0 hn false
end
def sel (lv : Int) : List S52 → List Int
  | [] => []
  | x :: l => if x.f1 = lv then x.f0 :: sel lv l else sel lv l
theorem sel_len (lv : Int) : ∀ l : List S52, (sel lv l).length ≤ l.length
  | [] => Nat.le_refl _
  | x :: l => by
    have := sel_len lv l
    rw [sel]
    split <;> simp only [List.length_cons] <;> omega
def pickF : Nat → Int → List S52 → List Int
  | 0, _, _ => []
  | n + 1, lv, b => if 4 ≤ (sel lv b).length then (sel lv b).take 4 else pickF n (lv + 1) b
theorem pickF_len : ∀ (n : Nat) (lv : Int) (b : List S52), (pickF n lv b).length ≤ 4
  | 0, _, _ => Nat.zero_le _
  | n + 1, lv, b => by
    rw [pickF]
    split
    · rw [List.length_take]; omega
    · exact pickF_len n _ b
def pickV (b : List S52) (nx lg lw : Int) : List Int := if chk b nx lg lw = 0 then pickF 21 0 b else []
theorem pickV_len (b : List S52) (nx lg lw : Int) : (pickV b nx lg lw).length ≤ 140737488355328 := by
  unfold pickV
  split
  · exact Nat.le_trans (pickF_len _ _ _) (by decide)
  · exact Nat.zero_le _
section
variable {b : List S52} {nx lg lw : Int}
theorem pick_l1 (hn : b.length ≤ 140737488355) {lv : Int} {r : List Int} (hend : ∀ i : Int, ¬ i < (b.length : Int) → Ev (fun k => manifest_Pick.l1 k lv (sel lv b) lv b (b.length : Int) i b nx lg lw) r) :
    ∀ (d i : Nat) (acc : List Int), i + d = b.length → acc.length ≤ i → acc ++ sel lv (b.drop i) = sel lv b → Ev (fun k => manifest_Pick.l1 k lv acc lv b (b.length : Int) (i : Int) b nx lg lw) r := by
  intro d
  induction d with
  | zero =>
    intro i acc hi _ he
    rw [List.drop_of_length_le (by omega), sel, List.append_nil] at he
    rw [he]
    exact hend _ (by omega)
  | succ d ih =>
    intro i acc hi hl he
    have hlt : i < b.length := by omega
    rw [List.drop_eq_getElem_cons hlt, sel] at he
    by_cases c : b[i].f1 = lv
    · rw [if_pos c] at he
      refine Ev.step (f := fun k => manifest_Pick.l1 k lv (acc ++ [b[i].f0]) lv b (b.length : Int) ((i + 1 : Nat) : Int) b nx lg lw) (fun k => ?_) (ih (i + 1) (acc ++ [b[i].f0]) (by omega) (by simp only [List.length_append, List.length_cons, List.length_nil]; omega) (by rw [List.append_assoc]; exact he))
      simp only [manifest_Pick.l1]
      rw [if_pos (by omega), if_pos (by omega), if_pos (by omega), rdT_nat hlt, if_pos c, if_pos (by omega), wi1 hlt (by omega)]
    · rw [if_neg c] at he
      refine Ev.step (f := fun k => manifest_Pick.l1 k lv acc lv b (b.length : Int) ((i + 1 : Nat) : Int) b nx lg lw) (fun k => ?_) (ih (i + 1) _ (by omega) (by omega) he)
      simp only [manifest_Pick.l1]
      rw [if_pos (by omega), if_pos (by omega), if_pos (by omega), rdT_nat hlt, if_neg c, wi1 hlt (by omega)]
theorem pick_l0 (hn : b.length ≤ 140737488355) : ∀ (n : Nat) (lv : Int), lv + n = 21 → 0 ≤ lv → Ev (fun k => manifest_Pick.l0 k lv b nx lg lw) (pickF n lv b) := by
  intro n
  induction n with
  | zero =>
    intro lv h _
    refine Ev.step (f := fun _ => some []) (fun k => ?_) (Ev.now _)
    simp only [manifest_Pick.l0]
    rw [if_neg (by omega)]
  | succ n ih =>
    intro lv h h0
    have h1 := ih (lv + 1) (by omega) (by omega)
    refine Ev.step (f := fun k => manifest_Pick.l1 k lv [] lv b (b.length : Int) 0 b nx lg lw) (fun k => ?_) (pick_l1 hn (fun i hi => ?_) b.length 0 [] (by omega) (Nat.le_refl _) rfl)
    · simp only [manifest_Pick.l0]
      rw [if_pos (by omega)]
    · rw [pickF]
      by_cases c : 4 ≤ (sel lv b).length
      · rw [if_pos c]
        refine Ev.step (f := fun _ => some ((sel lv b).take 4)) (fun k => ?_) (Ev.now _)
        simp only [manifest_Pick.l1]
        rw [if_neg hi, if_pos (by omega), if_pos (by omega)]
        rfl
      · rw [if_neg c]
        refine Ev.step (f := fun k => manifest_Pick.l0 k (lv + 1) b nx lg lw) (fun k => ?_) h1
        simp only [manifest_Pick.l1]
        rw [if_neg hi, if_neg (by omega), w64 (by omega) (by omega)]
theorem pick_ev (hn : b.length ≤ 140737488355) : Ev (fun k => manifest_Pick.f k b nx lg lw) (pickV b nx lg lw) := by
  unfold manifest_Pick.f pickV
  refine Ev.bind (chk_ev (by omega)) ?_
  by_cases c : chk b nx lg lw = 0
  · rw [if_pos c]; exact ev_if_pos c (pick_l0 hn 21 0 (by omega) (by omega))
  · rw [if_neg c]; exact ev_if_neg c (Ev.now _)
end
/-! ### one block more; blocks put together -/
def addV (b : List S52) (nx lg lw lv fr tt : Int) : List S52 × Int × Int × Int × Int × Int :=
  if chk (b ++ [(⟨nx, lv, fr, tt⟩ : S52)]) (wrap64 (nx + 1)) lg lw = 0 then (b ++ [(⟨nx, lv, fr, tt⟩ : S52)], wrap64 (nx + 1), lg, lw, nx, 0) else ([], 0, 0, 0, 0, chk (b ++ [(⟨nx, lv, fr, tt⟩ : S52)]) (wrap64 (nx + 1)) lg lw)
section
variable {b : List S52} {nx lg lw lv fr tt : Int}
theorem added_ev (hn : b.length ≤ 1000) : Ev (fun k => manifest_added.f k b nx lg lw lv fr tt) (addV b nx lg lw lv fr tt) := by
  unfold manifest_added.f addV
  refine ev_one_bind (a := b) ?_ (ev_if_pos (by omega) (ev_some_bind (Ev.bind (chk_ev (by simp; omega)) ?_)))
  · unfold api_Ref.f; exact if_pos (by omega)
  · by_cases c : chk (b ++ [(⟨nx, lv, fr, tt⟩ : S52)]) (wrap64 (nx + 1)) lg lw = 0
    · exact ev_eq (ev_if_pos c (Ev.now _)) (by rw [if_pos c])
    · exact ev_eq (ev_if_neg c (Ev.now _)) (by rw [if_neg c])
theorem add_ev (hn : b.length ≤ 1000) : Ev (fun k => manifest_Add.f k b nx lg lw lv fr tt) (if chk b nx lg lw = 0 then addV b nx lg lw lv fr tt else ([], 0, 0, 0, 0, chk b nx lg lw)) := by
  unfold manifest_Add.f
  refine Ev.bind (chk_ev (by omega)) ?_
  by_cases c : chk b nx lg lw = 0
  · rw [if_pos c]; exact ev_if_pos c (Ev.bind (added_ev hn) (Ev.now _))
  · rw [if_neg c]; exact ev_if_neg c (Ev.now _)
end
/-! ### lists in which no number stands twice -/
theorem len_le_of_sub : ∀ {F D : List Int}, F.Nodup → (∀ x ∈ F, x ∈ D) → F.length ≤ D.length
  | [], D, _, _ => Nat.zero_le _
  | x :: F, D, hn, hs => by
    have hx : x ∈ D := hs x List.mem_cons_self
    have h1 := len_le_of_sub (F := F) (D := D.erase x) (List.nodup_cons.1 hn).2 (fun y hy => by
      refine (List.mem_erase_of_ne ?_).2 (hs y (List.mem_cons_of_mem _ hy))
      rintro rfl
      exact (List.nodup_cons.1 hn).1 hy)
    rw [List.length_erase_of_mem hx] at h1
    have : 0 < D.length := List.length_pos_of_mem hx
    rw [List.length_cons]; omega
def dd : List Int → List Int
  | [] => []
  | x :: l => if l.contains x = true then dd l else x :: dd l
theorem dd_len : ∀ l : List Int, (dd l).length = XH.SwapMap.dist l
  | [] => rfl
  | x :: l => by
    rw [dd, XH.SwapMap.dist]
    by_cases c : l.contains x = true
    · rw [if_pos c, if_pos c, dd_len l]
    · rw [if_neg c, if_neg c, List.length_cons, dd_len l]
theorem dd_mem {y : Int} : ∀ {l : List Int}, y ∈ dd l ↔ y ∈ l
  | [] => by simp [dd]
  | x :: l => by
    rw [dd]
    by_cases c : l.contains x = true
    · rw [if_pos c, dd_mem, List.mem_cons]
      refine ⟨.inr, fun h => h.elim (fun e => ?_) id⟩
      subst e
      exact List.contains_iff_mem.1 c
    · rw [if_neg c, List.mem_cons, List.mem_cons, dd_mem]
theorem dd_nodup : ∀ l : List Int, (dd l).Nodup
  | [] => List.nodup_nil
  | x :: l => by
    rw [dd]
    by_cases c : l.contains x = true
    · rw [if_pos c]; exact dd_nodup l
    · rw [if_neg c]
      exact List.nodup_cons.2 ⟨fun h => c (List.contains_iff_mem.2 (dd_mem.1 h)), dd_nodup l⟩
theorem ids_gt {nx : Int} : ∀ {last : Int} {b : List S52}, ids nx last b = true → ∀ x ∈ b, last < x.f0
  | _, [], _, x, hx => by cases hx
  | last, y :: b, h, x, hx => by
    simp only [ids, Bool.and_eq_true, okB, decide_eq_true_eq] at h
    rcases List.mem_cons.1 hx with rfl | hx
    · exact h.1.2.1
    · have := ids_gt h.2 x hx; omega
theorem ids_nodup {nx : Int} : ∀ {last : Int} {b : List S52}, ids nx last b = true → (b.map S52.f0).Nodup
  | _, [], _ => List.nodup_nil
  | last, y :: b, h => by
    have h0 := h
    simp only [ids, Bool.and_eq_true] at h
    rw [List.map_cons]
    refine List.nodup_cons.2 ⟨fun hm => ?_, ids_nodup h.2⟩
    obtain ⟨x, hx, e⟩ := List.mem_map.1 hm
    have := ids_gt h.2 x hx
    omega
theorem ids_filter {nx : Int} (p : S52 → Bool) : ∀ {last last' : Int} {b : List S52}, ids nx last b = true → last' ≤ last → ids nx last' (b.filter p) = true
  | _, _, [], _, _ => rfl
  | last, last', y :: b, h, hl => by
    simp only [ids, Bool.and_eq_true, okB, decide_eq_true_eq] at h
    rw [List.filter_cons]
    by_cases c : p y = true
    · rw [if_pos c]
      simp only [ids, Bool.and_eq_true, okB, decide_eq_true_eq]
      exact ⟨⟨h.1.1, by omega, h.1.2.2.1, h.1.2.2.2.1, h.1.2.2.2.2⟩, ids_filter p h.2 (Int.le_refl _)⟩
    · rw [if_neg c]
      exact ids_filter p h.2 (by have := h.1.2.1; omega)
theorem times_filter (p : S52 → Bool) {b : List S52} (h : times b = true) : times (b.filter p) = true := by
  unfold times at h ⊢
  rw [List.all_eq_true] at h ⊢
  exact fun x hx => h x (List.mem_filter.1 hx).1
theorem chk_zero {b : List S52} {nx lg lw : Int} (h : chk b nx lg lw = 0) : ids nx 0 b = true := by
  unfold chk at h
  by_cases c : ids nx 0 b = true
  · exact c
  · rw [if_neg c] at h
    split at h
    · cases h
    · split at h <;> cases h
theorem chk_filter {b : List S52} {nx lg lw : Int} (p : S52 → Bool) (h : chk b nx lg lw = 0) : chk (b.filter p) nx lg lw = 0 := by
  have hi := chk_zero h
  unfold chk at h ⊢
  rw [if_pos hi] at h
  rw [if_pos (ids_filter p hi (Int.le_refl _))]
  by_cases c1 : b.length > 200
  · rw [if_pos c1] at h; cases h
  · rw [if_neg c1] at h
    rw [if_neg (by have := List.length_filter_le p b; omega)]
    by_cases c2 : (nx < 1 ∨ nx > 1099511627776) ∨ (lg < 1 ∨ lg > 1099511627776)
    · rw [if_pos c2] at h; cases h
    · rw [if_neg c2] at h ⊢
      by_cases c3 : times b = true ∧ timedB lw = true
      · rw [if_pos ⟨times_filter p c3.1, c3.2⟩]
      · rw [if_neg c3] at h; cases h
def inB (b : List S52) (x : Int) : Bool := b.any fun y => y.f0 == x
theorem inB_mem {b : List S52} {x : Int} : inB b x = true ↔ x ∈ b.map S52.f0 := by
  unfold inB
  rw [List.any_eq_true, List.mem_map]
  exact ⟨fun ⟨y, hy, e⟩ => ⟨y, hy, beq_iff_eq.1 e⟩, fun ⟨y, hy, e⟩ => ⟨y, hy, beq_iff_eq.2 e⟩⟩
theorem found_len (L : List Int) (b : List S52) : b.length - (manifest_Swap.left L b).length = (b.filter (fun x => L.contains x.f0)).length := by
  unfold manifest_Swap.left
  induction b with
  | nil => rfl
  | cons x b ih =>
    have h1 := List.length_filter_le (fun x : S52 => !(L.contains x.f0)) b
    rw [List.filter_cons, List.filter_cons]
    cases c : L.contains x.f0
    · simp only [Bool.not_false, if_true, if_false, List.length_cons, Bool.false_eq_true] at ih ⊢; omega
    · simp only [Bool.not_true, if_true, if_false, List.length_cons, Bool.false_eq_true] at ih ⊢; omega
/-- Fewer blocks have gone than there are numbers just where a number is no block's. -/
theorem found_lt {nx : Int} {L : List Int} {b : List S52} (h : ids nx 0 b = true) : (b.length - (manifest_Swap.left L b).length < XH.SwapMap.dist L) ↔ L.all (inB b) = false := by
  rw [found_len, ← dd_len]
  have hF : ((b.filter (fun x => L.contains x.f0)).map S52.f0).Nodup := List.Nodup.sublist (List.Sublist.map _ (List.filter_sublist)) (ids_nodup h)
  have hl : ((b.filter (fun x => L.contains x.f0)).map S52.f0).length = (b.filter (fun x => L.contains x.f0)).length := List.length_map ..
  rw [← hl]
  have hmem : ∀ y, y ∈ (b.filter (fun x => L.contains x.f0)).map S52.f0 ↔ y ∈ L ∧ y ∈ b.map S52.f0 := fun y => by
    rw [List.mem_map, List.mem_map]
    constructor
    · rintro ⟨x, hx, rfl⟩
      obtain ⟨h1, h2⟩ := List.mem_filter.1 hx
      exact ⟨List.contains_iff_mem.1 h2, x, h1, rfl⟩
    · rintro ⟨h1, x, h2, rfl⟩
      exact ⟨x, List.mem_filter.2 ⟨h2, List.contains_iff_mem.2 h1⟩, rfl⟩
  cases c : L.all (inB b)
  · refine ⟨fun _ => rfl, fun _ => ?_⟩
    have hn : ¬ (∀ x, x ∈ L → inB b x = true) := fun hz => by rw [List.all_eq_true.2 hz] at c; cases c
    obtain ⟨y, hy⟩ : ∃ y, y ∈ L ∧ inB b y = false := by
      refine Classical.byContradiction fun hz => hn fun x hx => ?_
      cases hb : inB b x
      · exact absurd ⟨x, hx, hb⟩ hz
      · rfl
    have h1 := len_le_of_sub (D := (dd L).erase y) hF (fun z hz => by
      have h2 := (hmem z).1 hz
      refine (List.mem_erase_of_ne ?_).2 (dd_mem.2 h2.1)
      rintro rfl
      have := inB_mem.2 h2.2
      rw [hy.2] at this
      cases this)
    have hm := dd_mem.2 hy.1
    rw [List.length_erase_of_mem hm] at h1
    have := List.length_pos_of_mem hm
    omega
  · refine ⟨fun hlt => ?_, fun e => by cases e⟩
    have hall := List.all_eq_true.1 c
    have h1 := len_le_of_sub (D := (b.filter (fun x => L.contains x.f0)).map S52.f0) (dd_nodup L) (fun z hz => (hmem z).2 ⟨dd_mem.1 hz, inB_mem.1 (hall z (dd_mem.1 hz))⟩)
    omega
theorem tw_append (a l : List Int) (h : manifest_Swap.tw l = true) : manifest_Swap.tw (a ++ l) = true := by
  induction a with
  | nil => exact h
  | cons x a ih => rw [List.cons_append, manifest_Swap.tw, ih, Bool.true_or]
theorem tw_take {l : List Int} (i : Nat) (h : manifest_Swap.tw (l.take i).reverse = true) : manifest_Swap.tw l.reverse = true := by
  have : l.reverse = (l.drop i).reverse ++ (l.take i).reverse := by rw [← List.reverse_append, List.take_append_drop]
  rw [this]; exact tw_append _ _ h
theorem tw_snoc {l : List Int} {i : Nat} (h : i < l.length) : manifest_Swap.tw (l.take (i + 1)).reverse = (manifest_Swap.tw (l.take i).reverse || (l.take i).contains l[i]) := by
  rw [List.take_succ_eq_append_getElem h, List.reverse_append]
  show manifest_Swap.tw (l[i] :: (l.take i).reverse) = _
  rw [manifest_Swap.tw]
  congr 1
  rw [Bool.eq_iff_iff, List.contains_iff_mem, List.contains_iff_mem, List.mem_reverse]
section
variable {b : List S52} {nx lg lw lv fr tt : Int} {L : List Int}
abbrev V6 := List S52 × Int × Int × Int × Int × Int
def swapV (b : List S52) (nx lg lw : Int) (L : List Int) (lv fr tt : Int) : V6 :=
  if chk b nx lg lw = 0 then
    (if L.length = 0 then ([], 0, 0, 0, 0, 6) else if L.all (inB b) = false then ([], 0, 0, 0, 0, 6) else if manifest_Swap.tw L.reverse = true then ([], 0, 0, 0, 0, 1) else addV (manifest_Swap.left L b) nx lg lw lv fr tt)
  else ([], 0, 0, 0, 0, chk b nx lg lw)
theorem swap_ev (hb : b.length ≤ 1000) (hL : L.all (fun x => (Lit.int .i64 x).wf) = true) (hw : b.all (fun x => (Lit.int .i64 x.f0).wf) = true) : Ev (fun k => manifest_Swap.f k b nx lg lw L lv fr tt) (swapV b nx lg lw L lv fr tt) := by
  unfold manifest_Swap.f swapV
  refine Ev.bind (chk_ev (by omega)) ?_
  by_cases c : chk b nx lg lw = 0
  · rw [if_pos c]
    have hf : (b.length - (manifest_Swap.left L b).length < XH.SwapMap.dist L.reverse) ↔ L.all (inB b) = false := by
      have h1 := found_lt (L := L.reverse) (chk_zero c)
      rw [List.all_reverse] at h1
      have h2 : manifest_Swap.left L.reverse b = manifest_Swap.left L b := by
        unfold manifest_Swap.left
        congr 1
        funext x
        rw [show L.reverse.contains x.f0 = L.contains x.f0 from by rw [Bool.eq_iff_iff, List.contains_iff_mem, List.contains_iff_mem, List.mem_reverse]]
      rw [h2] at h1
      exact h1
    refine ev_if_pos c (ev_if_pos ⟨hL, hw, by omega⟩ ?_)
    by_cases c1 : L.length = 0
    · rw [if_pos c1]; exact ev_if_pos (.inl c1) (Ev.now _)
    · rw [if_neg c1]
      by_cases c2 : L.all (inB b) = false
      · rw [if_pos c2]; exact ev_if_pos (.inr (hf.2 c2)) (Ev.now _)
      · rw [if_neg c2]
        refine ev_if_neg (fun z => z.elim c1 (fun y => c2 (hf.1 y))) ?_
        by_cases c3 : manifest_Swap.tw L.reverse = true
        · rw [if_pos c3]; exact ev_if_pos c3 (Ev.now _)
        · rw [if_neg c3]; exact ev_if_neg c3 (added_ev (Nat.le_trans (manifest_Swap.left_le _ _) hb))
  · rw [if_neg c]; exact ev_if_neg c (Ev.now _)
end
theorem alive17_ev : Ev (fun k => lysimeterlaw17_alive.f k) true := Ev.of lysimeterlaw17_alive.mono (k := 60) (by decide +kernel)
theorem of_ev : Ev (fun k => lysimeterlaw17_of.f k []) ([], 1, 1, 0) := Ev.of (fun k => lysimeterlaw17_of.mono _ k) (k := 3) (by rfl)
abbrev St := List S52 × Int × Int × Int
def wfOk (b : List S52) (p : List Int) : Bool := Nat.ble b.length 1000 && (p.all (fun x => (Lit.int .i64 x).wf) && b.all (fun x => (Lit.int .i64 x.f0).wf))
def mergeV : Nat → St → Option St
  | 0, _ => none
  | k + 1, s =>
    if wfOk s.1 (pickV s.1 s.2.1 s.2.2.1 s.2.2.2) = true then
      if (pickV s.1 s.2.1 s.2.2.1 s.2.2.2).length = 0 then some s else
        let c := lysimeterlaw17_ManifestGrows.scan s.1 (pickV s.1 s.2.1 s.2.2.1 s.2.2.2) (0, 1099511627776, 0)
        let y := swapV s.1 s.2.1 s.2.2.1 s.2.2.2 (pickV s.1 s.2.1 s.2.2.1 s.2.2.2) (wrap64 (c.1 + 1)) c.2.1 c.2.2
        if y.2.2.2.2.2 = 0 ∧ (y.1.length : Int) = wrap64 ((s.1.length : Int) - 3) then mergeV k (y.1, y.2.1, y.2.2.1, y.2.2.2.1) else none
    else none
theorem mergeV_ev : ∀ (d : Nat) (s s' : St), mergeV d s = some s' → Ev (fun k => lysimeterlaw17_ManifestGrows.merge k s.1 s.2.1 s.2.2.1 s.2.2.2) s'
  | 0, _, _, h => by cases h
  | d + 1, s, s', h => by
    rw [mergeV] at h
    by_cases c0 : wfOk s.1 (pickV s.1 s.2.1 s.2.2.1 s.2.2.2) = true
    case neg => rw [if_neg c0] at h; cases h
    rw [if_pos c0] at h
    simp only [wfOk, Bool.and_eq_true] at c0
    obtain ⟨hl, hp, hb⟩ := c0
    have hl' : s.1.length ≤ 1000 := Nat.le_of_ble_eq_true hl
    by_cases c1 : (pickV s.1 s.2.1 s.2.2.1 s.2.2.2).length = 0
    · rw [if_pos c1] at h
      obtain rfl := Option.some.inj h
      refine Ev.step (f := fun k => (manifest_Pick.f k s.1 s.2.1 s.2.2.1 s.2.2.2).bind fun p => if p.length = 0 then some (s.1, s.2.1, s.2.2.1, s.2.2.2) else (manifest_Swap.f k s.1 s.2.1 s.2.2.1 s.2.2.2 p (wrap64 ((lysimeterlaw17_ManifestGrows.scan s.1 p (0, 1099511627776, 0)).1 + 1)) (lysimeterlaw17_ManifestGrows.scan s.1 p (0, 1099511627776, 0)).2.1 (lysimeterlaw17_ManifestGrows.scan s.1 p (0, 1099511627776, 0)).2.2).bind fun y =>
          if y.2.2.2.2.2 = 0 ∧ (y.1.length : Int) = wrap64 ((s.1.length : Int) - 3) then lysimeterlaw17_ManifestGrows.merge k y.1 y.2.1 y.2.2.1 y.2.2.2.1 else none) (fun k => by rw [lysimeterlaw17_ManifestGrows.merge]) (Ev.bind (pick_ev (by omega)) (ev_if_pos c1 (Ev.now _)))
    · rw [if_neg c1] at h
      dsimp only at h
      generalize hy : swapV s.1 s.2.1 s.2.2.1 s.2.2.2 (pickV s.1 s.2.1 s.2.2.1 s.2.2.2) (wrap64 ((lysimeterlaw17_ManifestGrows.scan s.1 (pickV s.1 s.2.1 s.2.2.1 s.2.2.2) (0, 1099511627776, 0)).1 + 1)) (lysimeterlaw17_ManifestGrows.scan s.1 (pickV s.1 s.2.1 s.2.2.1 s.2.2.2) (0, 1099511627776, 0)).2.1 (lysimeterlaw17_ManifestGrows.scan s.1 (pickV s.1 s.2.1 s.2.2.1 s.2.2.2) (0, 1099511627776, 0)).2.2 = y at h
      have hs := swap_ev (nx := s.2.1) (lg := s.2.2.1) (lw := s.2.2.2) (lv := wrap64 ((lysimeterlaw17_ManifestGrows.scan s.1 (pickV s.1 s.2.1 s.2.2.1 s.2.2.2) (0, 1099511627776, 0)).1 + 1)) (fr := (lysimeterlaw17_ManifestGrows.scan s.1 (pickV s.1 s.2.1 s.2.2.1 s.2.2.2) (0, 1099511627776, 0)).2.1) (tt := (lysimeterlaw17_ManifestGrows.scan s.1 (pickV s.1 s.2.1 s.2.2.1 s.2.2.2) (0, 1099511627776, 0)).2.2) hl' hp hb
      rw [hy] at hs
      by_cases c2 : y.2.2.2.2.2 = 0 ∧ (y.1.length : Int) = wrap64 ((s.1.length : Int) - 3)
      · rw [if_pos c2] at h
        have ih := mergeV_ev d _ _ h
        exact Ev.step (f := fun k => (manifest_Pick.f k s.1 s.2.1 s.2.2.1 s.2.2.2).bind fun p => if p.length = 0 then some (s.1, s.2.1, s.2.2.1, s.2.2.2) else (manifest_Swap.f k s.1 s.2.1 s.2.2.1 s.2.2.2 p (wrap64 ((lysimeterlaw17_ManifestGrows.scan s.1 p (0, 1099511627776, 0)).1 + 1)) (lysimeterlaw17_ManifestGrows.scan s.1 p (0, 1099511627776, 0)).2.1 (lysimeterlaw17_ManifestGrows.scan s.1 p (0, 1099511627776, 0)).2.2).bind fun y =>
          if y.2.2.2.2.2 = 0 ∧ (y.1.length : Int) = wrap64 ((s.1.length : Int) - 3) then lysimeterlaw17_ManifestGrows.merge k y.1 y.2.1 y.2.2.1 y.2.2.2.1 else none) (fun k => by rw [lysimeterlaw17_ManifestGrows.merge]) (Ev.bind (pick_ev (by omega)) (ev_if_neg c1 (Ev.bind hs (ev_if_pos c2 ih))))
      · rw [if_neg c2] at h; cases h
def stepV (i : Int) (s : St) : Option St :=
  if Nat.ble s.1.length 1000 = true then
    let x := if chk s.1 s.2.1 s.2.2.1 s.2.2.2 = 0 then addV s.1 s.2.1 s.2.2.1 s.2.2.2 0 i (wrap64 (i + 1)) else ([], 0, 0, 0, 0, chk s.1 s.2.1 s.2.2.1 s.2.2.2)
    if x.2.2.2.2.2 = 0 ∧ x.2.2.2.2.1 = s.2.1 then mergeV 40 (x.1, x.2.1, x.2.2.1, x.2.2.2.1) else none
  else none
def walkV : Nat → Nat → St → Bool
  | 0, i, s => lysimeterlaw17_ManifestGrows.digs 21 0 i s.1
  | d + 1, i, s => lysimeterlaw17_ManifestGrows.digs 21 0 i s.1 && (match stepV (i : Int) s with
    | some s' => walkV d (i + 1) s'
    | none => false)
theorem main_ev (n : Nat) (hn : n ≤ 300) : ∀ (d i : Nat) (s : St), walkV d i s = true → i ≤ n → n ≤ i + d → ∃ e : St, Ev (fun k => lysimeterlaw17_ManifestGrows.main (n : Int) k (i : Int) s.1 s.2.1 s.2.2.1 s.2.2.2) e ∧ lysimeterlaw17_ManifestGrows.digs 21 0 n e.1 = true := by
  intro d
  induction d with
  | zero =>
    intro i s h h1 h2
    obtain rfl : i = n := by omega
    refine ⟨s, Ev.step (f := fun _ => some (s.1, s.2.1, s.2.2.1, s.2.2.2)) (fun k => ?_) (Ev.now _), h⟩
    rw [lysimeterlaw17_ManifestGrows.main, if_neg (by omega)]
  | succ d ih =>
    intro i s h h1 h2
    rw [walkV, Bool.and_eq_true] at h
    by_cases hi : i = n
    · subst hi
      refine ⟨s, Ev.step (f := fun _ => some (s.1, s.2.1, s.2.2.1, s.2.2.2)) (fun k => ?_) (Ev.now _), h.1⟩
      rw [lysimeterlaw17_ManifestGrows.main, if_neg (by omega)]
    · cases hs : stepV (i : Int) s with
      | none => rw [hs] at h; cases h.2
      | some s' =>
        rw [hs] at h
        obtain ⟨e, he, hd⟩ := ih (i + 1) s' h.2 (by omega) (by omega)
        refine ⟨e, ?_, hd⟩
        unfold stepV at hs
        by_cases c0 : Nat.ble s.1.length 1000 = true
        case neg => rw [if_neg c0] at hs; cases hs
        rw [if_pos c0] at hs
        have hl : s.1.length ≤ 1000 := Nat.le_of_ble_eq_true c0
        have ha := add_ev (b := s.1) (nx := s.2.1) (lg := s.2.2.1) (lw := s.2.2.2) (lv := 0) (fr := (i : Int)) (tt := wrap64 ((i : Int) + 1)) hl
        dsimp only at hs
        generalize (if chk s.1 s.2.1 s.2.2.1 s.2.2.2 = 0 then addV s.1 s.2.1 s.2.2.1 s.2.2.2 0 (i : Int) (wrap64 ((i : Int) + 1)) else ([], 0, 0, 0, 0, chk s.1 s.2.1 s.2.2.1 s.2.2.2)) = x at hs ha
        by_cases c1 : x.2.2.2.2.2 = 0 ∧ x.2.2.2.2.1 = s.2.1
        · rw [if_pos c1] at hs
          have hm := mergeV_ev 40 _ _ hs
          have hw : wrap64 ((i : Int) + 1) = ((i + 1 : Nat) : Int) := by unfold wrap64; omega
          refine Ev.step (f := fun k => (manifest_Add.f k s.1 s.2.1 s.2.2.1 s.2.2.2 0 (i : Int) (wrap64 ((i : Int) + 1))).bind fun x =>
            if x.2.2.2.2.2 = 0 ∧ x.2.2.2.2.1 = s.2.1 then (lysimeterlaw17_ManifestGrows.merge k x.1 x.2.1 x.2.2.1 x.2.2.2.1).bind fun z => lysimeterlaw17_ManifestGrows.main (n : Int) k (wrap64 ((i : Int) + 1)) z.1 z.2.1 z.2.2.1 z.2.2.2 else none) (fun k => ?_) (Ev.bind ha (ev_if_pos c1 (Ev.bind hm ?_)))
          · rw [lysimeterlaw17_ManifestGrows.main, if_pos (by omega)]
          · rw [hw]; exact he
        · rw [if_neg c1] at hs; cases hs
set_option maxRecDepth 100000 in
theorem table : walkV 300 0 ([], 1, 1, 0) = true := by decide +kernel
theorem ManifestGrows : lysimeterlaw17_ManifestGrows.Pure := by
  intro n hw
  refine Ev.rounds (g := fun k => lysimeterlaw17_ManifestGrows.f k n) ?_
  unfold lysimeterlaw17_ManifestGrows.f
  refine Ev.bind alive17_ev (ev_if_pos rfl ?_)
  by_cases c0 : n < 0
  · exact ev_if_pos c0 (Ev.now _)
  · refine ev_if_neg c0 ?_
    by_cases c1 : 300 < n
    · exact ev_if_pos c1 (Ev.now _)
    · refine ev_if_neg c1 (Ev.bind of_ev ?_)
      obtain ⟨m, rfl⟩ : ∃ m : Nat, n = (m : Int) := ⟨n.toNat, by omega⟩
      obtain ⟨e, he, hd⟩ := main_ev m (by omega) 300 0 ([], 1, 1, 0) table (Nat.zero_le _) (by omega)
      exact Ev.bind he (ev_if_pos (by rw [Int.toNat_natCast]; exact hd) (Ev.now _))

end Go.Proofs.Ytjilnpbgclnecab.Pure
