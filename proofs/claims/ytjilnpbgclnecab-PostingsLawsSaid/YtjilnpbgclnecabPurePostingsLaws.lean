/- The lists of the program's postings.And, Or and Sub go together as sets do (statement PostingsLaws); no condition. -/
import Derived.Test.YtjilnpbgclnecabPPostingsLawsx7
import Derived.Test.YtjilnpbgclnecabXPure
set_option linter.unusedVariables false
set_option linter.unusedSimpArgs false
namespace Go.Proofs.Ytjilnpbgclnecab.Pure
open Go Go.RowKit Go.Proofs.Ytjilnpbgclnecab.PPostingsLaws Go.Proofs.Ytjilnpbgclnecab.XP Go.Proofs.YtjilnpbgclnecabW.PrintWords Go.Proofs.YtjilnpbgclnecabW.PrintLast Go.Proofs.YtjilnpbgclnecabW.PrintMore

/-! ### rising lists, and what two of them make together -/
def ris (m : Int) : List Int → Bool
  | [] => true
  | x :: l => decide (m < x) && (decide (x < 1099511627776) && ris x l)
theorem ris_cons {m x : Int} {l : List Int} : ris m (x :: l) = true ↔ m < x ∧ x < 1099511627776 ∧ ris x l = true := by simp [ris]
def mrg (f : Bool → Bool → Bool) : List Int → List Int → List Int
  | [], [] => []
  | x :: a, [] => (if f true false = true then [x] else []) ++ mrg f a []
  | [], y :: b => (if f false true = true then [y] else []) ++ mrg f [] b
  | x :: a, y :: b =>
    if x = y then (if f true true = true then [y] else []) ++ mrg f a b
    else if x < y then (if f true false = true then [x] else []) ++ mrg f a (y :: b)
    else (if f false true = true then [y] else []) ++ mrg f (x :: a) b
termination_by a b => a.length + b.length
decreasing_by all_goals (simp only [List.length_cons, List.length_nil]; omega)
theorem mrg_nn (f : Bool → Bool → Bool) : mrg f [] [] = [] := by rw [mrg]
theorem mrg_cn (f : Bool → Bool → Bool) (x : Int) (a : List Int) : mrg f (x :: a) [] = (if f true false = true then [x] else []) ++ mrg f a [] := by rw [mrg]
theorem mrg_nc (f : Bool → Bool → Bool) (y : Int) (b : List Int) : mrg f [] (y :: b) = (if f false true = true then [y] else []) ++ mrg f [] b := by rw [mrg]
theorem mrg_eq (f : Bool → Bool → Bool) {x y : Int} (a b : List Int) (h : x = y) : mrg f (x :: a) (y :: b) = (if f true true = true then [y] else []) ++ mrg f a b := by rw [mrg, if_pos h]
theorem mrg_lt (f : Bool → Bool → Bool) {x y : Int} (a b : List Int) (h : x < y) : mrg f (x :: a) (y :: b) = (if f true false = true then [x] else []) ++ mrg f a (y :: b) := by rw [mrg, if_neg (by omega), if_pos h]
theorem mrg_gt (f : Bool → Bool → Bool) {x y : Int} (a b : List Int) (h : y < x) : mrg f (x :: a) (y :: b) = (if f false true = true then [y] else []) ++ mrg f (x :: a) b := by rw [mrg, if_neg (by omega), if_neg (by omega)]
theorem rd_nat {l : List Int} {i : Nat} (h : i < l.length) : rd l (i : Int) = l[i] := by
  unfold rd
  rw [Int.toNat_natCast, List.getD_eq_getElem?_getD, List.getElem?_eq_getElem h]; rfl
theorem wi1 {i n : Nat} (h : i < n) (hn : n ≤ 140737488355328) : wrap64 ((i : Int) + 1) = ((i + 1 : Nat) : Int) := by rw [w64 (by omega) (by omega)]; omega
theorem check_l0 (l : List Int) (hn : l.length ≤ 140737488355328) : ∀ (d i : Nat) (m : Int), i + d = l.length → Ev (fun k => postings_Check.l0 k m l (l.length : Int) (i : Int)) (ris m (l.drop i)) := by
  intro d
  induction d with
  | zero =>
    intro i m hi
    rw [List.drop_of_length_le (by omega)]
    refine Ev.step (f := fun _ => some true) (fun k => ?_) (Ev.now _)
    simp only [postings_Check.l0]
    rw [if_neg (by omega)]
  | succ d ih =>
    intro i m hi
    have hlt : i < l.length := by omega
    rw [List.drop_eq_getElem_cons hlt]
    have h1 := ih (i + 1) l[i] (by omega)
    by_cases c1 : l[i] ≤ m
    · refine Ev.step (f := fun _ => some false) (fun k => ?_) (ev_eq (Ev.now _) (by rw [ris, decide_eq_false (by omega)]; rfl))
      simp only [postings_Check.l0]
      rw [if_pos (by omega), if_pos (by omega), if_pos (by omega), rd_nat hlt, if_pos c1]
    · by_cases c2 : l[i] ≥ 1099511627776
      · refine Ev.step (f := fun _ => some false) (fun k => ?_) (ev_eq (Ev.now _) (by rw [ris, decide_eq_true (by omega), decide_eq_false (p := l[i] < 1099511627776) (by omega)]; rfl))
        simp only [postings_Check.l0]
        rw [if_pos (by omega), if_pos (by omega), if_pos (by omega), rd_nat hlt, if_neg c1, if_pos c2]
      · refine Ev.step (f := fun k => postings_Check.l0 k l[i] l (l.length : Int) ((i + 1 : Nat) : Int)) (fun k => ?_) (ev_eq h1 (by rw [ris, decide_eq_true (by omega), decide_eq_true (p := l[i] < 1099511627776) (by omega)]; rfl))
        simp only [postings_Check.l0]
        rw [if_pos (by omega), if_pos (by omega), if_pos (by omega), rd_nat hlt, if_neg c1, if_neg c2, wi1 hlt hn]
theorem check_ev {l : List Int} (hn : l.length ≤ 140737488355328) : Ev (fun k => postings_Check.f k l) (ris (-1) l) := check_l0 l hn l.length 0 (-1) (by omega)
theorem dpos (y : Int) (b : List Int) : decide (((y :: b : List Int).length : Int) > 0) = true := decide_eq_true (by simp only [List.length_cons]; omega)
theorem dzero : decide ((([] : List Int).length : Int) > 0) = false := rfl
theorem same_l0 (a b : List Int) (hab : a.length = b.length) (hn : a.length ≤ 140737488355328) : ∀ (d i : Nat), i + d = a.length → Ev (fun k => lysimeterlaw6_SameInts.l0 k a b (i : Int)) (decide (a.drop i = b.drop i)) := by
  intro d
  induction d with
  | zero =>
    intro i hi
    rw [List.drop_of_length_le (by omega), List.drop_of_length_le (by omega)]
    refine Ev.step (f := fun _ => some true) (fun k => ?_) (ev_eq (Ev.now _) (by simp))
    simp only [lysimeterlaw6_SameInts.l0]
    rw [if_neg (by omega)]
  | succ d ih =>
    intro i hi
    have hlt : i < a.length := by omega
    have hlt' : i < b.length := by omega
    rw [List.drop_eq_getElem_cons hlt, List.drop_eq_getElem_cons hlt']
    by_cases c1 : a[i] = b[i]
    · refine Ev.step (f := fun k => lysimeterlaw6_SameInts.l0 k a b ((i + 1 : Nat) : Int)) (fun k => ?_) (ev_eq (ih (i + 1) (by omega)) (by rw [decide_eq_decide, List.cons.injEq]; exact ⟨fun e => ⟨c1, e⟩, fun e => e.2⟩))
      simp only [lysimeterlaw6_SameInts.l0]
      rw [if_pos (by omega), if_pos (by omega), if_pos (by omega), rd_nat hlt, rd_nat hlt', if_pos c1, wi1 hlt hn]
    · refine Ev.step (f := fun _ => some false) (fun k => ?_) (ev_eq (Ev.now _) (by rw [decide_eq_false]; intro e; exact c1 (List.cons.inj e).1))
      simp only [lysimeterlaw6_SameInts.l0]
      rw [if_pos (by omega), if_pos (by omega), if_pos (by omega), rd_nat hlt, rd_nat hlt', if_neg c1]
theorem same_ev {a b : List Int} (hn : a.length ≤ 140737488355328) : Ev (fun k => lysimeterlaw6_SameInts.f k a b) (decide (a = b)) := by
  unfold lysimeterlaw6_SameInts.f
  by_cases h : a.length = b.length
  · exact ev_if_pos (by omega) (same_l0 a b h hn a.length 0 (by omega))
  · exact ev_if_neg (by omega) (ev_eq (Ev.now _) (by rw [decide_eq_false]; intro e; exact h (congrArg List.length e)))
theorem same_self {a : List Int} (hn : a.length ≤ 140737488355328) : Ev (fun k => lysimeterlaw6_SameInts.f k a a) true := ev_eq (same_ev hn) (by simp)
theorem mrg_len (f : Bool → Bool → Bool) (n : Nat) : ∀ a b : List Int, a.length + b.length ≤ n → (mrg f a b).length ≤ a.length + b.length := by
  have hone : ∀ (c : Bool) (v : Int) (l : List Int), ((if c = true then [v] else []) ++ l).length ≤ l.length + 1 := by
    intro c v l
    cases c <;> simp
  induction n with
  | zero =>
    intro a b h
    obtain rfl : a = [] := List.eq_nil_of_length_eq_zero (by omega)
    obtain rfl : b = [] := List.eq_nil_of_length_eq_zero (by omega)
    rw [mrg_nn]; simp
  | succ n ih =>
    intro a b h
    rcases a with _ | ⟨x, a⟩ <;> rcases b with _ | ⟨y, b⟩
    · rw [mrg_nn]; simp
    · rw [mrg_nc]
      simp only [List.length_cons, List.length_nil] at h ⊢
      have h1 := ih [] b (by simp only [List.length_nil]; omega)
      have h2 := hone (f false true) y (mrg f [] b)
      simp only [List.length_nil] at h1
      omega
    · rw [mrg_cn]
      simp only [List.length_cons, List.length_nil] at h ⊢
      have h1 := ih a [] (by simp only [List.length_nil]; omega)
      have h2 := hone (f true false) x (mrg f a [])
      simp only [List.length_nil] at h1
      omega
    · simp only [List.length_cons] at h
      rcases Int.lt_trichotomy x y with c | c | c
      · rw [mrg_lt f a b c]
        have h1 := ih a (y :: b) (by simp only [List.length_cons]; omega)
        have h2 := hone (f true false) x (mrg f a (y :: b))
        simp only [List.length_cons] at h1 ⊢
        omega
      · rw [mrg_eq f a b c]
        have h1 := ih a b (by omega)
        have h2 := hone (f true true) y (mrg f a b)
        simp only [List.length_cons]
        omega
      · rw [mrg_gt f a b c]
        have h1 := ih (x :: a) b (by simp only [List.length_cons]; omega)
        have h2 := hone (f false true) y (mrg f (x :: a) b)
        simp only [List.length_cons] at h1 ⊢
        omega
def mrgR (f : Bool → Bool → Bool) (a b : List Int) : List Int := if ris (-1) a = true ∧ ris (-1) b = true then mrg f a b else []
theorem mrgR_len (f : Bool → Bool → Bool) (a b : List Int) : (mrgR f a b).length ≤ a.length + b.length := by
  unfold mrgR
  split
  · exact mrg_len f _ a b (Nat.le_refl _)
  · simp
def kfAnd : Bool → Bool → Bool := fun x y => x && y
theorem litAnd (x y : Bool) : postings_And_lit1.f x y = some (kfAnd x y) := by cases x <;> cases y <;> rfl
theorem walkAnd_j4t {a b acc : List Int} {n y : Int} {x : Bool} {r : List Int} (ha : acc.length < 17592186044416)
    (h : Ev (fun k => postings_walk_And.l0 k a b (if kfAnd x true = true then acc ++ [y] else acc)) r) : Ev (fun k => postings_walk_And.j4 k a (y :: b) acc n x true) r := by
  refine Ev.step (f := fun k => postings_walk_And.l0 k a b (if kfAnd x true = true then acc ++ [y] else acc)) (fun k => ?_) h
  have e : rd (y :: b) 0 = y := rfl
  simp only [postings_walk_And.j4, litAnd, Option.bind_some, e, List.drop_succ_cons, List.drop_zero]
  rw [if_pos (by trivial), if_pos (by simp only [List.length_cons]; omega), if_pos (by simp only [List.length_cons]; omega)]
  by_cases hk : kfAnd x true = true
  · rw [if_pos hk, if_pos ha, if_pos hk]
  · rw [if_neg hk, if_neg hk]
theorem walkAnd_j4f {a b acc : List Int} {n : Int} {x : Bool} {r : List Int} (ha : acc.length < 17592186044416)
    (h : Ev (fun k => postings_walk_And.l0 k a b (if kfAnd x false = true then acc ++ [n] else acc)) r) : Ev (fun k => postings_walk_And.j4 k a b acc n x false) r := by
  refine Ev.step (f := fun k => postings_walk_And.l0 k a b (if kfAnd x false = true then acc ++ [n] else acc)) (fun k => ?_) h
  simp only [postings_walk_And.j4, litAnd, Option.bind_some]
  rw [if_neg (by decide)]
  by_cases hk : kfAnd x false = true
  · rw [if_pos hk, if_pos ha, if_pos hk]
  · rw [if_neg hk, if_neg hk]
theorem walkAnd_j3t {a b acc : List Int} {n x : Int} {q : Bool} {r : List Int} (h : Ev (fun k => postings_walk_And.j4 k a b acc x true q) r) : Ev (fun k => postings_walk_And.j3 k (x :: a) b acc n true q) r := by
  refine Ev.step (f := fun k => postings_walk_And.j4 k a b acc x true q) (fun k => ?_) h
  have e : rd (x :: a) 0 = x := rfl
  simp only [postings_walk_And.j3, e, List.drop_succ_cons, List.drop_zero]
  rw [if_pos (by trivial), if_pos (by simp only [List.length_cons]; omega), if_pos (by simp only [List.length_cons]; omega)]
theorem walkAnd_j3f {a b acc : List Int} {n : Int} {q : Bool} {r : List Int} (h : Ev (fun k => postings_walk_And.j4 k a b acc n false q) r) : Ev (fun k => postings_walk_And.j3 k a b acc n false q) r := by
  refine Ev.step (f := fun k => postings_walk_And.j4 k a b acc n false q) (fun k => ?_) h
  simp only [postings_walk_And.j3]
  rw [if_neg (by decide)]
theorem walkAnd_j2e {a b acc : List Int} {n : Int} {p q : Bool} : Ev (fun k => postings_walk_And.j2 k a b acc n p q true) acc := by
  refine Ev.step (f := fun _ => some acc) (fun k => ?_) (Ev.now _)
  simp only [postings_walk_And.j2]
  rw [if_pos (by trivial)]
theorem walkAnd_j2o {a b acc : List Int} {n : Int} {p q : Bool} {r : List Int} (hpq : ¬ (p = true ∧ q = true)) (h : Ev (fun k => postings_walk_And.j3 k a b acc n p q) r) : Ev (fun k => postings_walk_And.j2 k a b acc n p q false) r := by
  refine Ev.step (f := fun k => postings_walk_And.j3 k a b acc n p q) (fun k => ?_) h
  simp only [postings_walk_And.j2]
  rw [if_neg (by decide)]
  by_cases hp : p = true
  · rw [if_pos hp, if_neg (fun hq => hpq ⟨hp, hq⟩)]
  · rw [if_neg hp]
theorem walkAnd_j2q {a b acc : List Int} {n x y : Int} {r : List Int} (hxy : x = y) (h : Ev (fun k => postings_walk_And.j3 k (x :: a) (y :: b) acc n true true) r) : Ev (fun k => postings_walk_And.j2 k (x :: a) (y :: b) acc n true true false) r := by
  refine Ev.step (f := fun k => postings_walk_And.j3 k (x :: a) (y :: b) acc n true true) (fun k => ?_) h
  have e : rd (x :: a) 0 = x := rfl
  have e' : rd (y :: b) 0 = y := rfl
  simp only [postings_walk_And.j2, e, e']
  rw [if_neg (by decide), if_pos (by trivial), if_pos (by trivial), if_pos (by simp only [List.length_cons]; omega), if_pos (by simp only [List.length_cons]; omega), if_pos hxy]
theorem walkAnd_j2n {a b acc : List Int} {n x y : Int} {r : List Int} (hxy : ¬ x = y) (h : Ev (fun k => postings_walk_And.j3 k (x :: a) (y :: b) acc n (decide (x < y)) (decide (y < x))) r) : Ev (fun k => postings_walk_And.j2 k (x :: a) (y :: b) acc n true true false) r := by
  refine Ev.step (f := fun k => postings_walk_And.j3 k (x :: a) (y :: b) acc n (decide (x < y)) (decide (y < x))) (fun k => ?_) h
  have e : rd (x :: a) 0 = x := rfl
  have e' : rd (y :: b) 0 = y := rfl
  simp only [postings_walk_And.j2, e, e']
  rw [if_neg (by decide), if_pos (by trivial), if_pos (by trivial), if_pos (by simp only [List.length_cons]; omega), if_pos (by simp only [List.length_cons]; omega), if_neg hxy]
theorem walkAnd_c {a b acc : List Int} {x : Int} {r : List Int} (h : Ev (fun k => postings_walk_And.j2 k (x :: a) b acc 0 true (decide ((b.length : Int) > 0)) false) r) : Ev (fun k => postings_walk_And.l0 k (x :: a) b acc) r := by
  refine Ev.step (f := fun k => postings_walk_And.j2 k (x :: a) b acc 0 true (decide ((b.length : Int) > 0)) false) (fun k => ?_) h
  simp only [postings_walk_And.l0]
  rw [if_pos (by simp only [List.length_cons]; omega), dpos]
theorem walkAnd_n {b acc : List Int} {r : List Int} (h : Ev (fun k => postings_walk_And.j2 k [] b acc 0 false (decide ((b.length : Int) > 0)) (!(decide ((b.length : Int) > 0)))) r) : Ev (fun k => postings_walk_And.l0 k [] b acc) r := by
  refine Ev.step (f := fun k => postings_walk_And.j2 k [] b acc 0 false (decide ((b.length : Int) > 0)) (!(decide ((b.length : Int) > 0)))) (fun k => ?_) h
  simp only [postings_walk_And.l0]
  rw [if_neg (by simp), dzero]
theorem walkAnd_l0 (n : Nat) : ∀ a b acc : List Int, a.length + b.length ≤ n → acc.length + n < 17592186044416 → Ev (fun k => postings_walk_And.l0 k a b acc) (acc ++ mrg kfAnd a b) := by
  have hnn : ∀ acc : List Int, Ev (fun k => postings_walk_And.l0 k [] [] acc) (acc ++ mrg kfAnd [] []) := by
    intro acc
    rw [mrg_nn, List.append_nil]
    refine walkAnd_n ?_
    rw [dzero]
    exact walkAnd_j2e
  induction n with
  | zero =>
    intro a b acc h hl
    obtain rfl : a = [] := List.eq_nil_of_length_eq_zero (by omega)
    obtain rfl : b = [] := List.eq_nil_of_length_eq_zero (by omega)
    exact hnn acc
  | succ n ih =>
    intro a b acc h hl
    have hs : ∀ (c : Bool) (v : Int) (a' b' : List Int), a'.length + b'.length ≤ n → Ev (fun k => postings_walk_And.l0 k a' b' (if c = true then acc ++ [v] else acc)) (acc ++ ((if c = true then [v] else []) ++ mrg kfAnd a' b')) := by
      intro c v a' b' h'
      cases c
      · exact ih a' b' acc h' (by omega)
      · have h2 := ih a' b' (acc ++ [v]) h' (by simp only [List.length_append, List.length_cons, List.length_nil]; omega)
        rw [List.append_assoc] at h2
        exact h2
    rcases a with _ | ⟨x, a⟩ <;> rcases b with _ | ⟨y, b⟩
    · exact hnn acc
    · rw [mrg_nc]
      refine walkAnd_n ?_
      rw [dpos]
      refine walkAnd_j2o (by simp) (walkAnd_j3f (walkAnd_j4t (by omega) (hs _ _ _ _ ?_)))
      simp only [List.length_cons, List.length_nil] at h ⊢
      omega
    · rw [mrg_cn]
      refine walkAnd_c ?_
      rw [dzero]
      refine walkAnd_j2o (by simp) (walkAnd_j3t (walkAnd_j4f (by omega) (hs _ _ _ _ ?_)))
      simp only [List.length_cons, List.length_nil] at h ⊢
      omega
    · refine walkAnd_c ?_
      rw [dpos]
      simp only [List.length_cons] at h
      rcases Int.lt_trichotomy x y with c | c | c
      · rw [mrg_lt _ a b c]
        refine walkAnd_j2n (by omega) ?_
        rw [decide_eq_true c, decide_eq_false (by omega)]
        exact walkAnd_j3t (walkAnd_j4f (by omega) (hs _ _ _ _ (by simp only [List.length_cons]; omega)))
      · rw [mrg_eq _ a b c]
        exact walkAnd_j2q c (walkAnd_j3t (walkAnd_j4t (by omega) (hs _ _ _ _ (by omega))))
      · rw [mrg_gt _ a b c]
        refine walkAnd_j2n (by omega) ?_
        rw [decide_eq_true c, decide_eq_false (by omega)]
        exact walkAnd_j3f (walkAnd_j4t (by omega) (hs _ _ _ _ (by simp only [List.length_cons]; omega)))
theorem walkAnd_j0 {a b : List Int} (c : Bool) (h : a.length + b.length < 17592186044416) : Ev (fun k => postings_walk_And.j0 k a b c) (if c = true then [] else mrg kfAnd a b) := by
  cases c
  · refine Ev.step (f := fun k => postings_walk_And.l0 k a b []) (fun k => ?_) (walkAnd_l0 (a.length + b.length) a b [] (Nat.le_refl _) (by simp only [List.length_nil]; omega))
    simp only [postings_walk_And.j0]
    rw [if_neg (by decide)]
  · refine Ev.step (f := fun _ => some []) (fun k => ?_) (Ev.now _)
    simp only [postings_walk_And.j0]
    rw [if_pos (by trivial)]
theorem And_ev {a b : List Int} (h : a.length + b.length < 17592186044416) : Ev (fun k => postings_And.f k a b) (mrgR kfAnd a b) := by
  unfold postings_And.f postings_walk_And.f mrgR
  refine Ev.bind (a := if ris (-1) a = true ∧ ris (-1) b = true then mrg kfAnd a b else []) ?_ (Ev.now _)
  refine Ev.bind (check_ev (l := a) (by omega)) ?_
  by_cases h1 : ris (-1) a = true
  · refine ev_if_pos h1 (Ev.bind (check_ev (l := b) (by omega)) (ev_eq (walkAnd_j0 _ h) ?_))
    by_cases h2 : ris (-1) b = true <;> simp [h1, h2]
  · refine ev_if_neg h1 (ev_eq (walkAnd_j0 _ h) ?_)
    simp [h1]
def kfOr : Bool → Bool → Bool := fun x y => x || y
theorem litOr (x y : Bool) : postings_Or_lit1.f x y = some (kfOr x y) := by cases x <;> cases y <;> rfl
theorem walkOr_j4t {a b acc : List Int} {n y : Int} {x : Bool} {r : List Int} (ha : acc.length < 17592186044416)
    (h : Ev (fun k => postings_walk_Or.l0 k a b (if kfOr x true = true then acc ++ [y] else acc)) r) : Ev (fun k => postings_walk_Or.j4 k a (y :: b) acc n x true) r := by
  refine Ev.step (f := fun k => postings_walk_Or.l0 k a b (if kfOr x true = true then acc ++ [y] else acc)) (fun k => ?_) h
  have e : rd (y :: b) 0 = y := rfl
  simp only [postings_walk_Or.j4, litOr, Option.bind_some, e, List.drop_succ_cons, List.drop_zero]
  rw [if_pos (by trivial), if_pos (by simp only [List.length_cons]; omega), if_pos (by simp only [List.length_cons]; omega)]
  by_cases hk : kfOr x true = true
  · rw [if_pos hk, if_pos ha, if_pos hk]
  · rw [if_neg hk, if_neg hk]
theorem walkOr_j4f {a b acc : List Int} {n : Int} {x : Bool} {r : List Int} (ha : acc.length < 17592186044416)
    (h : Ev (fun k => postings_walk_Or.l0 k a b (if kfOr x false = true then acc ++ [n] else acc)) r) : Ev (fun k => postings_walk_Or.j4 k a b acc n x false) r := by
  refine Ev.step (f := fun k => postings_walk_Or.l0 k a b (if kfOr x false = true then acc ++ [n] else acc)) (fun k => ?_) h
  simp only [postings_walk_Or.j4, litOr, Option.bind_some]
  rw [if_neg (by decide)]
  by_cases hk : kfOr x false = true
  · rw [if_pos hk, if_pos ha, if_pos hk]
  · rw [if_neg hk, if_neg hk]
theorem walkOr_j3t {a b acc : List Int} {n x : Int} {q : Bool} {r : List Int} (h : Ev (fun k => postings_walk_Or.j4 k a b acc x true q) r) : Ev (fun k => postings_walk_Or.j3 k (x :: a) b acc n true q) r := by
  refine Ev.step (f := fun k => postings_walk_Or.j4 k a b acc x true q) (fun k => ?_) h
  have e : rd (x :: a) 0 = x := rfl
  simp only [postings_walk_Or.j3, e, List.drop_succ_cons, List.drop_zero]
  rw [if_pos (by trivial), if_pos (by simp only [List.length_cons]; omega), if_pos (by simp only [List.length_cons]; omega)]
theorem walkOr_j3f {a b acc : List Int} {n : Int} {q : Bool} {r : List Int} (h : Ev (fun k => postings_walk_Or.j4 k a b acc n false q) r) : Ev (fun k => postings_walk_Or.j3 k a b acc n false q) r := by
  refine Ev.step (f := fun k => postings_walk_Or.j4 k a b acc n false q) (fun k => ?_) h
  simp only [postings_walk_Or.j3]
  rw [if_neg (by decide)]
theorem walkOr_j2e {a b acc : List Int} {n : Int} {p q : Bool} : Ev (fun k => postings_walk_Or.j2 k a b acc n p q true) acc := by
  refine Ev.step (f := fun _ => some acc) (fun k => ?_) (Ev.now _)
  simp only [postings_walk_Or.j2]
  rw [if_pos (by trivial)]
theorem walkOr_j2o {a b acc : List Int} {n : Int} {p q : Bool} {r : List Int} (hpq : ¬ (p = true ∧ q = true)) (h : Ev (fun k => postings_walk_Or.j3 k a b acc n p q) r) : Ev (fun k => postings_walk_Or.j2 k a b acc n p q false) r := by
  refine Ev.step (f := fun k => postings_walk_Or.j3 k a b acc n p q) (fun k => ?_) h
  simp only [postings_walk_Or.j2]
  rw [if_neg (by decide)]
  by_cases hp : p = true
  · rw [if_pos hp, if_neg (fun hq => hpq ⟨hp, hq⟩)]
  · rw [if_neg hp]
theorem walkOr_j2q {a b acc : List Int} {n x y : Int} {r : List Int} (hxy : x = y) (h : Ev (fun k => postings_walk_Or.j3 k (x :: a) (y :: b) acc n true true) r) : Ev (fun k => postings_walk_Or.j2 k (x :: a) (y :: b) acc n true true false) r := by
  refine Ev.step (f := fun k => postings_walk_Or.j3 k (x :: a) (y :: b) acc n true true) (fun k => ?_) h
  have e : rd (x :: a) 0 = x := rfl
  have e' : rd (y :: b) 0 = y := rfl
  simp only [postings_walk_Or.j2, e, e']
  rw [if_neg (by decide), if_pos (by trivial), if_pos (by trivial), if_pos (by simp only [List.length_cons]; omega), if_pos (by simp only [List.length_cons]; omega), if_pos hxy]
theorem walkOr_j2n {a b acc : List Int} {n x y : Int} {r : List Int} (hxy : ¬ x = y) (h : Ev (fun k => postings_walk_Or.j3 k (x :: a) (y :: b) acc n (decide (x < y)) (decide (y < x))) r) : Ev (fun k => postings_walk_Or.j2 k (x :: a) (y :: b) acc n true true false) r := by
  refine Ev.step (f := fun k => postings_walk_Or.j3 k (x :: a) (y :: b) acc n (decide (x < y)) (decide (y < x))) (fun k => ?_) h
  have e : rd (x :: a) 0 = x := rfl
  have e' : rd (y :: b) 0 = y := rfl
  simp only [postings_walk_Or.j2, e, e']
  rw [if_neg (by decide), if_pos (by trivial), if_pos (by trivial), if_pos (by simp only [List.length_cons]; omega), if_pos (by simp only [List.length_cons]; omega), if_neg hxy]
theorem walkOr_c {a b acc : List Int} {x : Int} {r : List Int} (h : Ev (fun k => postings_walk_Or.j2 k (x :: a) b acc 0 true (decide ((b.length : Int) > 0)) false) r) : Ev (fun k => postings_walk_Or.l0 k (x :: a) b acc) r := by
  refine Ev.step (f := fun k => postings_walk_Or.j2 k (x :: a) b acc 0 true (decide ((b.length : Int) > 0)) false) (fun k => ?_) h
  simp only [postings_walk_Or.l0]
  rw [if_pos (by simp only [List.length_cons]; omega), dpos]
theorem walkOr_n {b acc : List Int} {r : List Int} (h : Ev (fun k => postings_walk_Or.j2 k [] b acc 0 false (decide ((b.length : Int) > 0)) (!(decide ((b.length : Int) > 0)))) r) : Ev (fun k => postings_walk_Or.l0 k [] b acc) r := by
  refine Ev.step (f := fun k => postings_walk_Or.j2 k [] b acc 0 false (decide ((b.length : Int) > 0)) (!(decide ((b.length : Int) > 0)))) (fun k => ?_) h
  simp only [postings_walk_Or.l0]
  rw [if_neg (by simp), dzero]
theorem walkOr_l0 (n : Nat) : ∀ a b acc : List Int, a.length + b.length ≤ n → acc.length + n < 17592186044416 → Ev (fun k => postings_walk_Or.l0 k a b acc) (acc ++ mrg kfOr a b) := by
  have hnn : ∀ acc : List Int, Ev (fun k => postings_walk_Or.l0 k [] [] acc) (acc ++ mrg kfOr [] []) := by
    intro acc
    rw [mrg_nn, List.append_nil]
    refine walkOr_n ?_
    rw [dzero]
    exact walkOr_j2e
  induction n with
  | zero =>
    intro a b acc h hl
    obtain rfl : a = [] := List.eq_nil_of_length_eq_zero (by omega)
    obtain rfl : b = [] := List.eq_nil_of_length_eq_zero (by omega)
    exact hnn acc
  | succ n ih =>
    intro a b acc h hl
    have hs : ∀ (c : Bool) (v : Int) (a' b' : List Int), a'.length + b'.length ≤ n → Ev (fun k => postings_walk_Or.l0 k a' b' (if c = true then acc ++ [v] else acc)) (acc ++ ((if c = true then [v] else []) ++ mrg kfOr a' b')) := by
      intro c v a' b' h'
      cases c
      · exact ih a' b' acc h' (by omega)
      · have h2 := ih a' b' (acc ++ [v]) h' (by simp only [List.length_append, List.length_cons, List.length_nil]; omega)
        rw [List.append_assoc] at h2
        exact h2
    rcases a with _ | ⟨x, a⟩ <;> rcases b with _ | ⟨y, b⟩
    · exact hnn acc
    · rw [mrg_nc]
      refine walkOr_n ?_
      rw [dpos]
      refine walkOr_j2o (by simp) (walkOr_j3f (walkOr_j4t (by omega) (hs _ _ _ _ ?_)))
      simp only [List.length_cons, List.length_nil] at h ⊢
      omega
    · rw [mrg_cn]
      refine walkOr_c ?_
      rw [dzero]
      refine walkOr_j2o (by simp) (walkOr_j3t (walkOr_j4f (by omega) (hs _ _ _ _ ?_)))
      simp only [List.length_cons, List.length_nil] at h ⊢
      omega
    · refine walkOr_c ?_
      rw [dpos]
      simp only [List.length_cons] at h
      rcases Int.lt_trichotomy x y with c | c | c
      · rw [mrg_lt _ a b c]
        refine walkOr_j2n (by omega) ?_
        rw [decide_eq_true c, decide_eq_false (by omega)]
        exact walkOr_j3t (walkOr_j4f (by omega) (hs _ _ _ _ (by simp only [List.length_cons]; omega)))
      · rw [mrg_eq _ a b c]
        exact walkOr_j2q c (walkOr_j3t (walkOr_j4t (by omega) (hs _ _ _ _ (by omega))))
      · rw [mrg_gt _ a b c]
        refine walkOr_j2n (by omega) ?_
        rw [decide_eq_true c, decide_eq_false (by omega)]
        exact walkOr_j3f (walkOr_j4t (by omega) (hs _ _ _ _ (by simp only [List.length_cons]; omega)))
theorem walkOr_j0 {a b : List Int} (c : Bool) (h : a.length + b.length < 17592186044416) : Ev (fun k => postings_walk_Or.j0 k a b c) (if c = true then [] else mrg kfOr a b) := by
  cases c
  · refine Ev.step (f := fun k => postings_walk_Or.l0 k a b []) (fun k => ?_) (walkOr_l0 (a.length + b.length) a b [] (Nat.le_refl _) (by simp only [List.length_nil]; omega))
    simp only [postings_walk_Or.j0]
    rw [if_neg (by decide)]
  · refine Ev.step (f := fun _ => some []) (fun k => ?_) (Ev.now _)
    simp only [postings_walk_Or.j0]
    rw [if_pos (by trivial)]
theorem Or_ev {a b : List Int} (h : a.length + b.length < 17592186044416) : Ev (fun k => postings_Or.f k a b) (mrgR kfOr a b) := by
  unfold postings_Or.f postings_walk_Or.f mrgR
  refine Ev.bind (a := if ris (-1) a = true ∧ ris (-1) b = true then mrg kfOr a b else []) ?_ (Ev.now _)
  refine Ev.bind (check_ev (l := a) (by omega)) ?_
  by_cases h1 : ris (-1) a = true
  · refine ev_if_pos h1 (Ev.bind (check_ev (l := b) (by omega)) (ev_eq (walkOr_j0 _ h) ?_))
    by_cases h2 : ris (-1) b = true <;> simp [h1, h2]
  · refine ev_if_neg h1 (ev_eq (walkOr_j0 _ h) ?_)
    simp [h1]
def kfSub : Bool → Bool → Bool := fun x y => x && !y
theorem litSub (x y : Bool) : postings_Sub_lit1.f x y = some (kfSub x y) := by cases x <;> cases y <;> rfl
theorem walkSub_j4t {a b acc : List Int} {n y : Int} {x : Bool} {r : List Int} (ha : acc.length < 17592186044416)
    (h : Ev (fun k => postings_walk_Sub.l0 k a b (if kfSub x true = true then acc ++ [y] else acc)) r) : Ev (fun k => postings_walk_Sub.j4 k a (y :: b) acc n x true) r := by
  refine Ev.step (f := fun k => postings_walk_Sub.l0 k a b (if kfSub x true = true then acc ++ [y] else acc)) (fun k => ?_) h
  have e : rd (y :: b) 0 = y := rfl
  simp only [postings_walk_Sub.j4, litSub, Option.bind_some, e, List.drop_succ_cons, List.drop_zero]
  rw [if_pos (by trivial), if_pos (by simp only [List.length_cons]; omega), if_pos (by simp only [List.length_cons]; omega)]
  by_cases hk : kfSub x true = true
  · rw [if_pos hk, if_pos ha, if_pos hk]
  · rw [if_neg hk, if_neg hk]
theorem walkSub_j4f {a b acc : List Int} {n : Int} {x : Bool} {r : List Int} (ha : acc.length < 17592186044416)
    (h : Ev (fun k => postings_walk_Sub.l0 k a b (if kfSub x false = true then acc ++ [n] else acc)) r) : Ev (fun k => postings_walk_Sub.j4 k a b acc n x false) r := by
  refine Ev.step (f := fun k => postings_walk_Sub.l0 k a b (if kfSub x false = true then acc ++ [n] else acc)) (fun k => ?_) h
  simp only [postings_walk_Sub.j4, litSub, Option.bind_some]
  rw [if_neg (by decide)]
  by_cases hk : kfSub x false = true
  · rw [if_pos hk, if_pos ha, if_pos hk]
  · rw [if_neg hk, if_neg hk]
theorem walkSub_j3t {a b acc : List Int} {n x : Int} {q : Bool} {r : List Int} (h : Ev (fun k => postings_walk_Sub.j4 k a b acc x true q) r) : Ev (fun k => postings_walk_Sub.j3 k (x :: a) b acc n true q) r := by
  refine Ev.step (f := fun k => postings_walk_Sub.j4 k a b acc x true q) (fun k => ?_) h
  have e : rd (x :: a) 0 = x := rfl
  simp only [postings_walk_Sub.j3, e, List.drop_succ_cons, List.drop_zero]
  rw [if_pos (by trivial), if_pos (by simp only [List.length_cons]; omega), if_pos (by simp only [List.length_cons]; omega)]
theorem walkSub_j3f {a b acc : List Int} {n : Int} {q : Bool} {r : List Int} (h : Ev (fun k => postings_walk_Sub.j4 k a b acc n false q) r) : Ev (fun k => postings_walk_Sub.j3 k a b acc n false q) r := by
  refine Ev.step (f := fun k => postings_walk_Sub.j4 k a b acc n false q) (fun k => ?_) h
  simp only [postings_walk_Sub.j3]
  rw [if_neg (by decide)]
theorem walkSub_j2e {a b acc : List Int} {n : Int} {p q : Bool} : Ev (fun k => postings_walk_Sub.j2 k a b acc n p q true) acc := by
  refine Ev.step (f := fun _ => some acc) (fun k => ?_) (Ev.now _)
  simp only [postings_walk_Sub.j2]
  rw [if_pos (by trivial)]
theorem walkSub_j2o {a b acc : List Int} {n : Int} {p q : Bool} {r : List Int} (hpq : ¬ (p = true ∧ q = true)) (h : Ev (fun k => postings_walk_Sub.j3 k a b acc n p q) r) : Ev (fun k => postings_walk_Sub.j2 k a b acc n p q false) r := by
  refine Ev.step (f := fun k => postings_walk_Sub.j3 k a b acc n p q) (fun k => ?_) h
  simp only [postings_walk_Sub.j2]
  rw [if_neg (by decide)]
  by_cases hp : p = true
  · rw [if_pos hp, if_neg (fun hq => hpq ⟨hp, hq⟩)]
  · rw [if_neg hp]
theorem walkSub_j2q {a b acc : List Int} {n x y : Int} {r : List Int} (hxy : x = y) (h : Ev (fun k => postings_walk_Sub.j3 k (x :: a) (y :: b) acc n true true) r) : Ev (fun k => postings_walk_Sub.j2 k (x :: a) (y :: b) acc n true true false) r := by
  refine Ev.step (f := fun k => postings_walk_Sub.j3 k (x :: a) (y :: b) acc n true true) (fun k => ?_) h
  have e : rd (x :: a) 0 = x := rfl
  have e' : rd (y :: b) 0 = y := rfl
  simp only [postings_walk_Sub.j2, e, e']
  rw [if_neg (by decide), if_pos (by trivial), if_pos (by trivial), if_pos (by simp only [List.length_cons]; omega), if_pos (by simp only [List.length_cons]; omega), if_pos hxy]
theorem walkSub_j2n {a b acc : List Int} {n x y : Int} {r : List Int} (hxy : ¬ x = y) (h : Ev (fun k => postings_walk_Sub.j3 k (x :: a) (y :: b) acc n (decide (x < y)) (decide (y < x))) r) : Ev (fun k => postings_walk_Sub.j2 k (x :: a) (y :: b) acc n true true false) r := by
  refine Ev.step (f := fun k => postings_walk_Sub.j3 k (x :: a) (y :: b) acc n (decide (x < y)) (decide (y < x))) (fun k => ?_) h
  have e : rd (x :: a) 0 = x := rfl
  have e' : rd (y :: b) 0 = y := rfl
  simp only [postings_walk_Sub.j2, e, e']
  rw [if_neg (by decide), if_pos (by trivial), if_pos (by trivial), if_pos (by simp only [List.length_cons]; omega), if_pos (by simp only [List.length_cons]; omega), if_neg hxy]
theorem walkSub_c {a b acc : List Int} {x : Int} {r : List Int} (h : Ev (fun k => postings_walk_Sub.j2 k (x :: a) b acc 0 true (decide ((b.length : Int) > 0)) false) r) : Ev (fun k => postings_walk_Sub.l0 k (x :: a) b acc) r := by
  refine Ev.step (f := fun k => postings_walk_Sub.j2 k (x :: a) b acc 0 true (decide ((b.length : Int) > 0)) false) (fun k => ?_) h
  simp only [postings_walk_Sub.l0]
  rw [if_pos (by simp only [List.length_cons]; omega), dpos]
theorem walkSub_n {b acc : List Int} {r : List Int} (h : Ev (fun k => postings_walk_Sub.j2 k [] b acc 0 false (decide ((b.length : Int) > 0)) (!(decide ((b.length : Int) > 0)))) r) : Ev (fun k => postings_walk_Sub.l0 k [] b acc) r := by
  refine Ev.step (f := fun k => postings_walk_Sub.j2 k [] b acc 0 false (decide ((b.length : Int) > 0)) (!(decide ((b.length : Int) > 0)))) (fun k => ?_) h
  simp only [postings_walk_Sub.l0]
  rw [if_neg (by simp), dzero]
theorem walkSub_l0 (n : Nat) : ∀ a b acc : List Int, a.length + b.length ≤ n → acc.length + n < 17592186044416 → Ev (fun k => postings_walk_Sub.l0 k a b acc) (acc ++ mrg kfSub a b) := by
  have hnn : ∀ acc : List Int, Ev (fun k => postings_walk_Sub.l0 k [] [] acc) (acc ++ mrg kfSub [] []) := by
    intro acc
    rw [mrg_nn, List.append_nil]
    refine walkSub_n ?_
    rw [dzero]
    exact walkSub_j2e
  induction n with
  | zero =>
    intro a b acc h hl
    obtain rfl : a = [] := List.eq_nil_of_length_eq_zero (by omega)
    obtain rfl : b = [] := List.eq_nil_of_length_eq_zero (by omega)
    exact hnn acc
  | succ n ih =>
    intro a b acc h hl
    have hs : ∀ (c : Bool) (v : Int) (a' b' : List Int), a'.length + b'.length ≤ n → Ev (fun k => postings_walk_Sub.l0 k a' b' (if c = true then acc ++ [v] else acc)) (acc ++ ((if c = true then [v] else []) ++ mrg kfSub a' b')) := by
      intro c v a' b' h'
      cases c
      · exact ih a' b' acc h' (by omega)
      · have h2 := ih a' b' (acc ++ [v]) h' (by simp only [List.length_append, List.length_cons, List.length_nil]; omega)
        rw [List.append_assoc] at h2
        exact h2
    rcases a with _ | ⟨x, a⟩ <;> rcases b with _ | ⟨y, b⟩
    · exact hnn acc
    · rw [mrg_nc]
      refine walkSub_n ?_
      rw [dpos]
      refine walkSub_j2o (by simp) (walkSub_j3f (walkSub_j4t (by omega) (hs _ _ _ _ ?_)))
      simp only [List.length_cons, List.length_nil] at h ⊢
      omega
    · rw [mrg_cn]
      refine walkSub_c ?_
      rw [dzero]
      refine walkSub_j2o (by simp) (walkSub_j3t (walkSub_j4f (by omega) (hs _ _ _ _ ?_)))
      simp only [List.length_cons, List.length_nil] at h ⊢
      omega
    · refine walkSub_c ?_
      rw [dpos]
      simp only [List.length_cons] at h
      rcases Int.lt_trichotomy x y with c | c | c
      · rw [mrg_lt _ a b c]
        refine walkSub_j2n (by omega) ?_
        rw [decide_eq_true c, decide_eq_false (by omega)]
        exact walkSub_j3t (walkSub_j4f (by omega) (hs _ _ _ _ (by simp only [List.length_cons]; omega)))
      · rw [mrg_eq _ a b c]
        exact walkSub_j2q c (walkSub_j3t (walkSub_j4t (by omega) (hs _ _ _ _ (by omega))))
      · rw [mrg_gt _ a b c]
        refine walkSub_j2n (by omega) ?_
        rw [decide_eq_true c, decide_eq_false (by omega)]
        exact walkSub_j3f (walkSub_j4t (by omega) (hs _ _ _ _ (by simp only [List.length_cons]; omega)))
theorem walkSub_j0 {a b : List Int} (c : Bool) (h : a.length + b.length < 17592186044416) : Ev (fun k => postings_walk_Sub.j0 k a b c) (if c = true then [] else mrg kfSub a b) := by
  cases c
  · refine Ev.step (f := fun k => postings_walk_Sub.l0 k a b []) (fun k => ?_) (walkSub_l0 (a.length + b.length) a b [] (Nat.le_refl _) (by simp only [List.length_nil]; omega))
    simp only [postings_walk_Sub.j0]
    rw [if_neg (by decide)]
  · refine Ev.step (f := fun _ => some []) (fun k => ?_) (Ev.now _)
    simp only [postings_walk_Sub.j0]
    rw [if_pos (by trivial)]
theorem Sub_ev {a b : List Int} (h : a.length + b.length < 17592186044416) : Ev (fun k => postings_Sub.f k a b) (mrgR kfSub a b) := by
  unfold postings_Sub.f postings_walk_Sub.f mrgR
  refine Ev.bind (a := if ris (-1) a = true ∧ ris (-1) b = true then mrg kfSub a b else []) ?_ (Ev.now _)
  refine Ev.bind (check_ev (l := a) (by omega)) ?_
  by_cases h1 : ris (-1) a = true
  · refine ev_if_pos h1 (Ev.bind (check_ev (l := b) (by omega)) (ev_eq (walkSub_j0 _ h) ?_))
    by_cases h2 : ris (-1) b = true <;> simp [h1, h2]
  · refine ev_if_neg h1 (ev_eq (walkSub_j0 _ h) ?_)
    simp [h1]
theorem refris_l0 (l : List Int) (hn : l.length ≤ 140737488355328) : ∀ (d i : Nat) (m : Int), i + d = l.length → -1 ≤ m → (i = 0 → m = -1) → (∀ h : 0 < i, ∀ h' : i - 1 < l.length, m = l[i - 1]) → Ev (fun k => lysimeterref11_Rising.l0 k l (i : Int)) (ris m (l.drop i)) := by
  intro d
  induction d with
  | zero =>
    intro i m hi _ _ _
    rw [List.drop_of_length_le (by omega)]
    refine Ev.step (f := fun _ => some true) (fun k => ?_) (Ev.now _)
    simp only [lysimeterref11_Rising.l0]
    rw [if_neg (by omega)]
  | succ d ih =>
    intro i m hi hm h0 h1
    have hlt : i < l.length := by omega
    rw [List.drop_eq_getElem_cons hlt]
    by_cases c0 : l[i] < 0
    · refine Ev.step (f := fun _ => some false) (fun k => ?_) (ev_eq (Ev.now _) (by rw [ris, decide_eq_false (by omega)]; rfl))
      simp only [lysimeterref11_Rising.l0]
      rw [if_pos (by omega), if_pos (by omega), rd_nat hlt, if_pos c0]
    · by_cases c2 : l[i] ≥ 1099511627776
      · refine Ev.step (f := fun _ => some false) (fun k => ?_) (ev_eq (Ev.now _) (by rw [ris, decide_eq_false (p := l[i] < 1099511627776) (by omega)]; simp))
        simp only [lysimeterref11_Rising.l0]
        rw [if_pos (by omega), if_pos (by omega), rd_nat hlt, if_neg c0, if_pos c2]
      · have h2 := ih (i + 1) l[i] (by omega) (by omega) (by omega) (fun _ _ => by simp)
        rcases Nat.eq_zero_or_pos i with hz | hz
        · have hm' := h0 hz
          refine Ev.step (f := fun k => lysimeterref11_Rising.l0 k l ((i + 1 : Nat) : Int)) (fun k => ?_) (ev_eq h2 (by rw [ris, decide_eq_true (by omega), decide_eq_true (p := l[i] < 1099511627776) (by omega)]; rfl))
          simp only [lysimeterref11_Rising.l0]
          rw [if_pos (by omega), if_pos (by omega), rd_nat hlt, if_neg c0, if_neg c2, if_neg (by omega), wi1 hlt hn]
        · have hl1 : i - 1 < l.length := by omega
          have hm' := h1 hz hl1
          have e1 : wrap64 ((i : Int) - 1) = ((i - 1 : Nat) : Int) := by rw [w64 (by omega) (by omega)]; omega
          by_cases c1 : l[i] ≤ m
          · refine Ev.step (f := fun _ => some false) (fun k => ?_) (ev_eq (Ev.now _) (by rw [ris, decide_eq_false (by omega)]; rfl))
            simp only [lysimeterref11_Rising.l0]
            rw [if_pos (by omega), if_pos (by omega), rd_nat hlt, if_neg c0, if_neg c2, if_pos (by omega), e1, if_pos (by omega), if_pos (by omega), rd_nat hl1, ← hm', if_pos c1]
          · refine Ev.step (f := fun k => lysimeterref11_Rising.l0 k l ((i + 1 : Nat) : Int)) (fun k => ?_) (ev_eq h2 (by rw [ris, decide_eq_true (by omega), decide_eq_true (p := l[i] < 1099511627776) (by omega)]; rfl))
            simp only [lysimeterref11_Rising.l0]
            rw [if_pos (by omega), if_pos (by omega), rd_nat hlt, if_neg c0, if_neg c2, if_pos (by omega), e1, if_pos (by omega), if_pos (by omega), rd_nat hl1, ← hm', if_neg c1, wi1 hlt hn]
theorem refris_ev {l : List Int} (hn : l.length ≤ 140737488355328) : Ev (fun k => lysimeterref11_Rising.f k l) (ris (-1) l) := refris_l0 l hn l.length 0 (-1) (by omega) (by omega) (fun _ => rfl) (fun h => absurd h (by omega))
theorem ris_mono {l : List Int} : ∀ {m m' : Int}, m' ≤ m → ris m l = true → ris m' l = true := by
  intro m m' hm h
  cases l with
  | nil => rfl
  | cons x l => rw [ris_cons] at h ⊢; exact ⟨by omega, h.2⟩
theorem ris_mem {l : List Int} : ∀ {m x : Int}, ris m l = true → x ∈ l → m < x := by
  induction l with
  | nil => intro m x _ h; cases h
  | cons y l ih =>
    intro m x h hx
    rw [ris_cons] at h
    rcases List.mem_cons.1 hx with rfl | hx
    · exact h.1
    · have := ih h.2.2 hx; omega
theorem ris_one {m x : Int} {l : List Int} (c : Bool) (h0 : m < x) (h1 : x < 1099511627776) (h2 : ris x l = true) : ris m ((if c = true then [x] else []) ++ l) = true := by
  cases c
  · exact ris_mono (Int.le_of_lt h0) h2
  · exact ris_cons.2 ⟨h0, h1, h2⟩
theorem mrg_ris (f : Bool → Bool → Bool) (n : Nat) : ∀ (a b : List Int) (m : Int), a.length + b.length ≤ n → ris m a = true → ris m b = true → ris m (mrg f a b) = true := by
  induction n with
  | zero =>
    intro a b m h _ _
    obtain rfl : a = [] := List.eq_nil_of_length_eq_zero (by omega)
    obtain rfl : b = [] := List.eq_nil_of_length_eq_zero (by omega)
    rw [mrg_nn]; rfl
  | succ n ih =>
    intro a b m h ha hb
    rcases a with _ | ⟨x, a⟩ <;> rcases b with _ | ⟨y, b⟩
    · rw [mrg_nn]; rfl
    · rw [mrg_nc]
      rw [ris_cons] at hb
      exact ris_one _ hb.1 hb.2.1 (ih [] b y (by simp only [List.length_cons, List.length_nil] at h ⊢; omega) rfl hb.2.2)
    · rw [mrg_cn]
      rw [ris_cons] at ha
      exact ris_one _ ha.1 ha.2.1 (ih a [] x (by simp only [List.length_cons, List.length_nil] at h ⊢; omega) ha.2.2 rfl)
    · simp only [List.length_cons] at h
      have ha' := ha
      have hb' := hb
      rw [ris_cons] at ha hb
      rcases Int.lt_trichotomy x y with c | c | c
      · rw [mrg_lt f a b c]
        exact ris_one _ ha.1 ha.2.1 (ih a (y :: b) x (by simp only [List.length_cons]; omega) ha.2.2 (ris_cons.2 ⟨c, hb.2⟩))
      · rw [mrg_eq f a b c]
        exact ris_one _ hb.1 hb.2.1 (ih a b y (by omega) (c ▸ ha.2.2) hb.2.2)
      · rw [mrg_gt f a b c]
        exact ris_one _ hb.1 hb.2.1 (ih (x :: a) b y (by simp only [List.length_cons]; omega) (ris_cons.2 ⟨c, ha.2⟩) hb.2.2)
theorem mem_one {c : Bool} {x z : Int} {l : List Int} : z ∈ (if c = true then [x] else []) ++ l ↔ (c = true ∧ z = x) ∨ z ∈ l := by
  cases c <;> simp
theorem mrg_mem (f : Bool → Bool → Bool) (hf : f false false = false) (n : Nat) : ∀ (a b : List Int) (m : Int), a.length + b.length ≤ n → ris m a = true → ris m b = true → ∀ z, z ∈ mrg f a b ↔ f (decide (z ∈ a)) (decide (z ∈ b)) = true := by
  induction n with
  | zero =>
    intro a b m h _ _ z
    obtain rfl : a = [] := List.eq_nil_of_length_eq_zero (by omega)
    obtain rfl : b = [] := List.eq_nil_of_length_eq_zero (by omega)
    rw [mrg_nn]; simp [hf]
  | succ n ih =>
    intro a b m h ha hb z
    rcases a with _ | ⟨x, a⟩ <;> rcases b with _ | ⟨y, b⟩
    · rw [mrg_nn]; simp [hf]
    · rw [ris_cons] at hb
      have h1 := ih [] b y (by simp only [List.length_cons, List.length_nil] at h ⊢; omega) rfl hb.2.2 z
      rw [mrg_nc, mem_one, h1]
      by_cases hz : z = y
      · have hn : ¬ z ∈ b := fun e => by have := ris_mem hb.2.2 e; omega
        subst hz
        simp [hn, hf]
      · simp [hz]
    · rw [ris_cons] at ha
      have h1 := ih a [] x (by simp only [List.length_cons, List.length_nil] at h ⊢; omega) ha.2.2 rfl z
      rw [mrg_cn, mem_one, h1]
      by_cases hz : z = x
      · have hn : ¬ z ∈ a := fun e => by have := ris_mem ha.2.2 e; omega
        subst hz
        simp [hn, hf]
      · simp [hz]
    · simp only [List.length_cons] at h
      have ha' := ha
      have hb' := hb
      rw [ris_cons] at ha hb
      rcases Int.lt_trichotomy x y with c | c | c
      · have hb2 : ris x (y :: b) = true := ris_cons.2 ⟨c, hb.2⟩
        have h1 := ih a (y :: b) x (by simp only [List.length_cons]; omega) ha.2.2 hb2 z
        rw [mrg_lt f a b c, mem_one, h1]
        by_cases hz : z = x
        · have hn : ¬ z ∈ a := fun e => by have := ris_mem ha.2.2 e; omega
          have hn' : ¬ z ∈ y :: b := fun e => by have := ris_mem hb2 e; omega
          have hxa : z ∈ x :: a := by rw [hz]; exact List.mem_cons_self
          rw [decide_eq_false hn, decide_eq_false hn', decide_eq_true hxa, hf]
          simp [hz]
        · simp [hz]
      · have h1 := ih a b y (by omega) (c ▸ ha.2.2) hb.2.2 z
        rw [mrg_eq f a b c, mem_one, h1]
        by_cases hz : z = y
        · have hn : ¬ z ∈ a := fun e => by have := ris_mem ha.2.2 e; omega
          have hn' : ¬ z ∈ b := fun e => by have := ris_mem hb.2.2 e; omega
          have hxa : z ∈ x :: a := by rw [hz, c]; exact List.mem_cons_self
          have hyb : z ∈ y :: b := by rw [hz]; exact List.mem_cons_self
          rw [decide_eq_false hn, decide_eq_false hn', decide_eq_true hxa, decide_eq_true hyb, hf]
          simp [hz]
        · have hx : ¬ z = x := by omega
          simp [hz, hx]
      · have ha2 : ris y (x :: a) = true := ris_cons.2 ⟨c, ha.2⟩
        have h1 := ih (x :: a) b y (by simp only [List.length_cons]; omega) ha2 hb.2.2 z
        rw [mrg_gt f a b c, mem_one, h1]
        by_cases hz : z = y
        · have hn : ¬ z ∈ b := fun e => by have := ris_mem hb.2.2 e; omega
          have hn' : ¬ z ∈ x :: a := fun e => by have := ris_mem ha2 e; omega
          have hyb : z ∈ y :: b := by rw [hz]; exact List.mem_cons_self
          rw [decide_eq_false hn, decide_eq_false hn', decide_eq_true hyb, hf]
          simp [hz]
        · simp [hz]
theorem ris_ext {a : List Int} : ∀ {b : List Int} {m : Int}, ris m a = true → ris m b = true → (∀ z, z ∈ a ↔ z ∈ b) → a = b := by
  induction a with
  | nil =>
    intro b m _ _ h
    cases b with
    | nil => rfl
    | cons y b => exact absurd ((h y).2 List.mem_cons_self) (by simp)
  | cons x a ih =>
    intro b m ha hb h
    cases b with
    | nil => exact absurd ((h x).1 List.mem_cons_self) (by simp)
    | cons y b =>
      rw [ris_cons] at ha hb
      have hxy : x = y := by
        have h1 := (h x).1 List.mem_cons_self
        have h2 := (h y).2 List.mem_cons_self
        rcases List.mem_cons.1 h1 with e | e
        · exact e
        · rcases List.mem_cons.1 h2 with e' | e'
          · exact e'.symm
          · have := ris_mem hb.2.2 e
            have := ris_mem ha.2.2 e'
            omega
      subst hxy
      rw [ih ha.2.2 hb.2.2 (fun z => ?_)]
      have hz := h z
      simp only [List.mem_cons] at hz
      constructor
      · intro e
        have := ris_mem ha.2.2 e
        exact (hz.1 (.inr e)).resolve_left (by omega)
      · intro e
        have := ris_mem hb.2.2 e
        exact (hz.2 (.inr e)).resolve_left (by omega)
theorem R_ris {f : Bool → Bool → Bool} {a b : List Int} : ris (-1) (mrgR f a b) = true := by
  unfold mrgR
  split
  · next h => exact mrg_ris f _ a b _ (Nat.le_refl _) h.1 h.2
  · rfl
theorem R_mem {f : Bool → Bool → Bool} (hf : f false false = false) {a b : List Int} (ha : ris (-1) a = true) (hb : ris (-1) b = true) (z : Int) : z ∈ mrgR f a b ↔ f (decide (z ∈ a)) (decide (z ∈ b)) = true := by
  unfold mrgR
  rw [if_pos ⟨ha, hb⟩]
  exact mrg_mem f hf _ a b _ (Nat.le_refl _) ha hb z
theorem And_mem {a b : List Int} (ha : ris (-1) a = true) (hb : ris (-1) b = true) (z : Int) : z ∈ mrgR kfAnd a b ↔ z ∈ a ∧ z ∈ b := by rw [R_mem rfl ha hb]; simp [kfAnd]
theorem Or_mem {a b : List Int} (ha : ris (-1) a = true) (hb : ris (-1) b = true) (z : Int) : z ∈ mrgR kfOr a b ↔ z ∈ a ∨ z ∈ b := by rw [R_mem rfl ha hb]; simp [kfOr]
theorem Sub_mem {a b : List Int} (ha : ris (-1) a = true) (hb : ris (-1) b = true) (z : Int) : z ∈ mrgR kfSub a b ↔ z ∈ a ∧ ¬ z ∈ b := by rw [R_mem rfl ha hb]; simp [kfSub]
theorem law1 {a b c : List Int} (ha : ris (-1) a = true) (hb : ris (-1) b = true) (hc : ris (-1) c = true) : mrgR kfAnd a (mrgR kfOr b c) = mrgR kfOr (mrgR kfAnd a b) (mrgR kfAnd a c) := by
  refine ris_ext R_ris R_ris (fun z => ?_)
  rw [And_mem ha R_ris, Or_mem hb hc, Or_mem R_ris R_ris, And_mem ha hb, And_mem ha hc]
  constructor
  · rintro ⟨h1, h2 | h2⟩
    · exact .inl ⟨h1, h2⟩
    · exact .inr ⟨h1, h2⟩
  · rintro (h | h)
    · exact ⟨h.1, .inl h.2⟩
    · exact ⟨h.1, .inr h.2⟩
theorem law2 {a b c : List Int} (ha : ris (-1) a = true) (hb : ris (-1) b = true) (hc : ris (-1) c = true) : mrgR kfSub a (mrgR kfOr b c) = mrgR kfSub (mrgR kfSub a b) c := by
  refine ris_ext R_ris R_ris (fun z => ?_)
  rw [Sub_mem ha R_ris, Or_mem hb hc, Sub_mem R_ris hc, Sub_mem ha hb]
  constructor
  · rintro ⟨h1, h2⟩
    exact ⟨⟨h1, fun e => h2 (.inl e)⟩, fun e => h2 (.inr e)⟩
  · rintro ⟨⟨h1, h2⟩, h3⟩
    exact ⟨h1, fun e => e.elim h2 h3⟩
theorem law3 {a b : List Int} (ha : ris (-1) a = true) (hb : ris (-1) b = true) : mrgR kfOr (mrgR kfAnd a b) (mrgR kfSub a b) = a := by
  refine ris_ext R_ris ha (fun z => ?_)
  rw [Or_mem R_ris R_ris, And_mem ha hb, Sub_mem ha hb]
  constructor
  · rintro (h | h)
    · exact h.1
    · exact h.1
  · intro h
    by_cases hz : z ∈ b
    · exact .inl ⟨h, hz⟩
    · exact .inr ⟨h, hz⟩
theorem alive14_ev : Ev (fun k => lysimeterlaw14_alive.f k) true := Ev.of lysimeterlaw14_alive.mono (k := 40) (by decide +kernel)
theorem PostingsLaws : lysimeterlaw14_PostingsLaws.Pure := by
  intro a b c _ ha8 _ _ hb8 _ _ hc8 _
  refine Ev.rounds (g := fun k => lysimeterlaw14_PostingsLaws.f k a b c) ?_
  unfold lysimeterlaw14_PostingsLaws.f
  have out : Ev (fun k => lysimeterlaw14_PostingsLaws.j0 k a b c true false) true := by
    refine Ev.step (f := fun k => lysimeterlaw14_PostingsLaws.j1 k a b c true true) (fun k => ?_) (Ev.step (f := fun _ => some true) (fun k => ?_) (Ev.now _))
    · simp only [lysimeterlaw14_PostingsLaws.j0]
      rw [if_pos (by trivial), if_neg (by decide)]
    · simp only [lysimeterlaw14_PostingsLaws.j1]
      rw [if_pos (by trivial)]
  refine Ev.bind alive14_ev (Ev.bind (refris_ev (l := a) (by omega)) ?_)
  by_cases ha : ris (-1) a = true
  · refine ev_if_pos ha (Ev.bind (refris_ev (l := b) (by omega)) ?_)
    by_cases hb : ris (-1) b = true
    · refine ev_if_pos hb (Ev.bind (refris_ev (l := c) (by omega)) ?_)
      by_cases hc : ris (-1) c = true
      · rw [hc]
        have e1 : wrap64 (wrap64 ((a.length : Int) + (b.length : Int)) + (c.length : Int)) = (a.length : Int) + (b.length : Int) + (c.length : Int) := by
          rw [w64 (x := (a.length : Int) + (b.length : Int)) (by omega) (by omega), w64 (by omega) (by omega)]
        refine Ev.step (f := fun k => lysimeterlaw14_PostingsLaws.j1 k a b c true (decide (wrap64 (wrap64 ((a.length : Int) + (b.length : Int)) + (c.length : Int)) > 1000))) (fun k => ?_) ?_
        · simp only [lysimeterlaw14_PostingsLaws.j0]
          rw [if_pos (by trivial), if_pos (by trivial)]
        · rw [e1]
          by_cases hl : (a.length : Int) + (b.length : Int) + (c.length : Int) > 1000
          · rw [decide_eq_true hl]
            refine Ev.step (f := fun _ => some true) (fun k => ?_) (Ev.now _)
            simp only [lysimeterlaw14_PostingsLaws.j1]
            rw [if_pos (by trivial)]
          · rw [decide_eq_false hl]
            have n1 := mrgR_len kfOr b c
            have n2 := mrgR_len kfAnd a (mrgR kfOr b c)
            have n3 := mrgR_len kfAnd a b
            have n4 := mrgR_len kfAnd a c
            have n5 := mrgR_len kfSub a (mrgR kfOr b c)
            have n6 := mrgR_len kfSub a b
            have n7 := mrgR_len kfOr (mrgR kfAnd a b) (mrgR kfSub a b)
            refine Ev.step (fun k => lysimeterlaw14_PostingsLaws.j1.eq_2 a b c true false k) (ev_if_neg (by decide) ?_)
            refine Ev.bind (Or_ev (a := b) (b := c) (by omega)) (Ev.bind (And_ev (by omega)) (Ev.bind (And_ev (a := a) (b := b) (by omega)) (Ev.bind (And_ev (a := a) (b := c) (by omega)) (Ev.bind (Or_ev (by omega)) ?_))))
            refine Ev.bind (ev_eq (same_ev (by omega)) (decide_eq_true (law1 ha hb hc))) ?_
            refine Ev.bind (Or_ev (a := b) (b := c) (by omega)) (Ev.bind (Sub_ev (by omega)) (Ev.bind (Sub_ev (a := a) (b := b) (by omega)) (Ev.bind (Sub_ev (by omega)) ?_)))
            refine Ev.bind (ev_eq (same_ev (by omega)) (decide_eq_true (law2 ha hb hc))) ?_
            refine Ev.bind (And_ev (a := a) (b := b) (by omega)) (Ev.bind (Sub_ev (a := a) (b := b) (by omega)) (Ev.bind (Or_ev (by omega)) ?_))
            refine Ev.bind (ev_eq (same_ev (by omega)) (decide_eq_true (law3 ha hb))) ?_
            exact ev_if_pos rfl (ev_if_pos rfl (Ev.now _))
      · rw [Bool.eq_false_iff.mpr hc]
        exact out
    · exact ev_if_neg hb out
  · exact ev_if_neg ha out

end Go.Proofs.Ytjilnpbgclnecab.Pure
