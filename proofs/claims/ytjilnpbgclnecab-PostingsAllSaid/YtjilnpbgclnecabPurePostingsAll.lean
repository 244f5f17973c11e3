/- What the program's postings.All tells to be in all of many lists is what the document's reference tells; what is answered is its own (statement PostingsAll); no condition. -/
import Derived.Test.YtjilnpbgclnecabPPostingsAllx6
import Derived.Test.YtjilnpbgclnecabXPure
set_option linter.unusedVariables false
set_option linter.unusedSimpArgs false
namespace Go.Proofs.Ytjilnpbgclnecab.Pure
open Go Go.RowKit Go.Proofs.Ytjilnpbgclnecab.PPostingsAll Go.Proofs.Ytjilnpbgclnecab.XP Go.Proofs.YtjilnpbgclnecabW.PrintWords Go.Proofs.YtjilnpbgclnecabW.PrintLast Go.Proofs.YtjilnpbgclnecabW.PrintMore

/-! ### rising lists, and what two of them make together -/
def ris (m : Int) : List Int → Bool
  | [] => true
  | x :: l => decide (m < x) && (decide (x < 1099511627776) && ris x l)
theorem ris_cons {m x : Int} {l : List Int} : ris m (x :: l) = true ↔ m < x ∧ x < 1099511627776 ∧ ris x l = true := by simp [ris]
def mrg (f : Bool → Bool → Bool) : List Int → List Int → List Int
  | [], [] => []
  | x :: a, [] => (if f true false = true then [x] else []) ++ mrg f a []
  | [], y :: b => (if f false true = true then [y] else []) ++ mrg f [] b
  | x :: a, y :: b =>
    if x = y then (if f true true = true then [y] else []) ++ mrg f a b
    else if x < y then (if f true false = true then [x] else []) ++ mrg f a (y :: b)
    else (if f false true = true then [y] else []) ++ mrg f (x :: a) b
termination_by a b => a.length + b.length
decreasing_by all_goals (simp only [List.length_cons, List.length_nil]; omega)
theorem mrg_nn (f : Bool → Bool → Bool) : mrg f [] [] = [] := by rw [mrg]
theorem mrg_cn (f : Bool → Bool → Bool) (x : Int) (a : List Int) : mrg f (x :: a) [] = (if f true false = true then [x] else []) ++ mrg f a [] := by rw [mrg]
theorem mrg_nc (f : Bool → Bool → Bool) (y : Int) (b : List Int) : mrg f [] (y :: b) = (if f false true = true then [y] else []) ++ mrg f [] b := by rw [mrg]
theorem mrg_eq (f : Bool → Bool → Bool) {x y : Int} (a b : List Int) (h : x = y) : mrg f (x :: a) (y :: b) = (if f true true = true then [y] else []) ++ mrg f a b := by rw [mrg, if_pos h]
theorem mrg_lt (f : Bool → Bool → Bool) {x y : Int} (a b : List Int) (h : x < y) : mrg f (x :: a) (y :: b) = (if f true false = true then [x] else []) ++ mrg f a (y :: b) := by rw [mrg, if_neg (by omega), if_pos h]
theorem mrg_gt (f : Bool → Bool → Bool) {x y : Int} (a b : List Int) (h : y < x) : mrg f (x :: a) (y :: b) = (if f false true = true then [y] else []) ++ mrg f (x :: a) b := by rw [mrg, if_neg (by omega), if_neg (by omega)]
theorem rd_nat {l : List Int} {i : Nat} (h : i < l.length) : rd l (i : Int) = l[i] := by
  unfold rd
  rw [Int.toNat_natCast, List.getD_eq_getElem?_getD, List.getElem?_eq_getElem h]; rfl
theorem wi1 {i n : Nat} (h : i < n) (hn : n ≤ 140737488355328) : wrap64 ((i : Int) + 1) = ((i + 1 : Nat) : Int) := by rw [w64 (by omega) (by omega)]; omega
theorem check_l0 (l : List Int) (hn : l.length ≤ 140737488355328) : ∀ (d i : Nat) (m : Int), i + d = l.length → Ev (fun k => postings_Check.l0 k m l (l.length : Int) (i : Int)) (ris m (l.drop i)) := by
  intro d
  induction d with
  | zero =>
    intro i m hi
    rw [List.drop_of_length_le (by omega)]
    refine Ev.step (f := fun _ => some true) (fun k => ?_) (Ev.now _)
    simp only [postings_Check.l0]
    rw [if_neg (by omega)]
  | succ d ih =>
    intro i m hi
    have hlt : i < l.length := by omega
    rw [List.drop_eq_getElem_cons hlt]
    have h1 := ih (i + 1) l[i] (by omega)
    by_cases c1 : l[i] ≤ m
    · refine Ev.step (f := fun _ => some false) (fun k => ?_) (ev_eq (Ev.now _) (by rw [ris, decide_eq_false (by omega)]; rfl))
      simp only [postings_Check.l0]
      rw [if_pos (by omega), if_pos (by omega), if_pos (by omega), rd_nat hlt, if_pos c1]
    · by_cases c2 : l[i] ≥ 1099511627776
      · refine Ev.step (f := fun _ => some false) (fun k => ?_) (ev_eq (Ev.now _) (by rw [ris, decide_eq_true (by omega), decide_eq_false (p := l[i] < 1099511627776) (by omega)]; rfl))
        simp only [postings_Check.l0]
        rw [if_pos (by omega), if_pos (by omega), if_pos (by omega), rd_nat hlt, if_neg c1, if_pos c2]
      · refine Ev.step (f := fun k => postings_Check.l0 k l[i] l (l.length : Int) ((i + 1 : Nat) : Int)) (fun k => ?_) (ev_eq h1 (by rw [ris, decide_eq_true (by omega), decide_eq_true (p := l[i] < 1099511627776) (by omega)]; rfl))
        simp only [postings_Check.l0]
        rw [if_pos (by omega), if_pos (by omega), if_pos (by omega), rd_nat hlt, if_neg c1, if_neg c2, wi1 hlt hn]
theorem check_ev {l : List Int} (hn : l.length ≤ 140737488355328) : Ev (fun k => postings_Check.f k l) (ris (-1) l) := check_l0 l hn l.length 0 (-1) (by omega)
theorem dpos (y : Int) (b : List Int) : decide (((y :: b : List Int).length : Int) > 0) = true := decide_eq_true (by simp only [List.length_cons]; omega)
theorem dzero : decide ((([] : List Int).length : Int) > 0) = false := rfl
theorem same_l0 (a b : List Int) (hab : a.length = b.length) (hn : a.length ≤ 140737488355328) : ∀ (d i : Nat), i + d = a.length → Ev (fun k => lysimeterlaw6_SameInts.l0 k a b (i : Int)) (decide (a.drop i = b.drop i)) := by
  intro d
  induction d with
  | zero =>
    intro i hi
    rw [List.drop_of_length_le (by omega), List.drop_of_length_le (by omega)]
    refine Ev.step (f := fun _ => some true) (fun k => ?_) (ev_eq (Ev.now _) (by simp))
    simp only [lysimeterlaw6_SameInts.l0]
    rw [if_neg (by omega)]
  | succ d ih =>
    intro i hi
    have hlt : i < a.length := by omega
    have hlt' : i < b.length := by omega
    rw [List.drop_eq_getElem_cons hlt, List.drop_eq_getElem_cons hlt']
    by_cases c1 : a[i] = b[i]
    · refine Ev.step (f := fun k => lysimeterlaw6_SameInts.l0 k a b ((i + 1 : Nat) : Int)) (fun k => ?_) (ev_eq (ih (i + 1) (by omega)) (by rw [decide_eq_decide, List.cons.injEq]; exact ⟨fun e => ⟨c1, e⟩, fun e => e.2⟩))
      simp only [lysimeterlaw6_SameInts.l0]
      rw [if_pos (by omega), if_pos (by omega), if_pos (by omega), rd_nat hlt, rd_nat hlt', if_pos c1, wi1 hlt hn]
    · refine Ev.step (f := fun _ => some false) (fun k => ?_) (ev_eq (Ev.now _) (by rw [decide_eq_false]; intro e; exact c1 (List.cons.inj e).1))
      simp only [lysimeterlaw6_SameInts.l0]
      rw [if_pos (by omega), if_pos (by omega), if_pos (by omega), rd_nat hlt, rd_nat hlt', if_neg c1]
theorem same_ev {a b : List Int} (hn : a.length ≤ 140737488355328) : Ev (fun k => lysimeterlaw6_SameInts.f k a b) (decide (a = b)) := by
  unfold lysimeterlaw6_SameInts.f
  by_cases h : a.length = b.length
  · exact ev_if_pos (by omega) (same_l0 a b h hn a.length 0 (by omega))
  · exact ev_if_neg (by omega) (ev_eq (Ev.now _) (by rw [decide_eq_false]; intro e; exact h (congrArg List.length e)))
theorem same_self {a : List Int} (hn : a.length ≤ 140737488355328) : Ev (fun k => lysimeterlaw6_SameInts.f k a a) true := ev_eq (same_ev hn) (by simp)
theorem mrg_len (f : Bool → Bool → Bool) (n : Nat) : ∀ a b : List Int, a.length + b.length ≤ n → (mrg f a b).length ≤ a.length + b.length := by
  have hone : ∀ (c : Bool) (v : Int) (l : List Int), ((if c = true then [v] else []) ++ l).length ≤ l.length + 1 := by
    intro c v l
    cases c <;> simp
  induction n with
  | zero =>
    intro a b h
    obtain rfl : a = [] := List.eq_nil_of_length_eq_zero (by omega)
    obtain rfl : b = [] := List.eq_nil_of_length_eq_zero (by omega)
    rw [mrg_nn]; simp
  | succ n ih =>
    intro a b h
    rcases a with _ | ⟨x, a⟩ <;> rcases b with _ | ⟨y, b⟩
    · rw [mrg_nn]; simp
    · rw [mrg_nc]
      simp only [List.length_cons, List.length_nil] at h ⊢
      have h1 := ih [] b (by simp only [List.length_nil]; omega)
      have h2 := hone (f false true) y (mrg f [] b)
      simp only [List.length_nil] at h1
      omega
    · rw [mrg_cn]
      simp only [List.length_cons, List.length_nil] at h ⊢
      have h1 := ih a [] (by simp only [List.length_nil]; omega)
      have h2 := hone (f true false) x (mrg f a [])
      simp only [List.length_nil] at h1
      omega
    · simp only [List.length_cons] at h
      rcases Int.lt_trichotomy x y with c | c | c
      · rw [mrg_lt f a b c]
        have h1 := ih a (y :: b) (by simp only [List.length_cons]; omega)
        have h2 := hone (f true false) x (mrg f a (y :: b))
        simp only [List.length_cons] at h1 ⊢
        omega
      · rw [mrg_eq f a b c]
        have h1 := ih a b (by omega)
        have h2 := hone (f true true) y (mrg f a b)
        simp only [List.length_cons]
        omega
      · rw [mrg_gt f a b c]
        have h1 := ih (x :: a) b (by simp only [List.length_cons]; omega)
        have h2 := hone (f false true) y (mrg f (x :: a) b)
        simp only [List.length_cons] at h1 ⊢
        omega
def mrgR (f : Bool → Bool → Bool) (a b : List Int) : List Int := if ris (-1) a = true ∧ ris (-1) b = true then mrg f a b else []
theorem mrgR_len (f : Bool → Bool → Bool) (a b : List Int) : (mrgR f a b).length ≤ a.length + b.length := by
  unfold mrgR
  split
  · exact mrg_len f _ a b (Nat.le_refl _)
  · simp
def kfAnd : Bool → Bool → Bool := fun x y => x && y
theorem litAnd (x y : Bool) : postings_And_lit1.f x y = some (kfAnd x y) := by cases x <;> cases y <;> rfl
theorem walkAnd_j4t {a b acc : List Int} {n y : Int} {x : Bool} {r : List Int} (ha : acc.length < 17592186044416)
    (h : Ev (fun k => postings_walk_And.l0 k a b (if kfAnd x true = true then acc ++ [y] else acc)) r) : Ev (fun k => postings_walk_And.j4 k a (y :: b) acc n x true) r := by
  refine Ev.step (f := fun k => postings_walk_And.l0 k a b (if kfAnd x true = true then acc ++ [y] else acc)) (fun k => ?_) h
  have e : rd (y :: b) 0 = y := rfl
  simp only [postings_walk_And.j4, litAnd, Option.bind_some, e, List.drop_succ_cons, List.drop_zero]
  rw [if_pos (by trivial), if_pos (by simp only [List.length_cons]; omega), if_pos (by simp only [List.length_cons]; omega)]
  by_cases hk : kfAnd x true = true
  · rw [if_pos hk, if_pos ha, if_pos hk]
  · rw [if_neg hk, if_neg hk]
theorem walkAnd_j4f {a b acc : List Int} {n : Int} {x : Bool} {r : List Int} (ha : acc.length < 17592186044416)
    (h : Ev (fun k => postings_walk_And.l0 k a b (if kfAnd x false = true then acc ++ [n] else acc)) r) : Ev (fun k => postings_walk_And.j4 k a b acc n x false) r := by
  refine Ev.step (f := fun k => postings_walk_And.l0 k a b (if kfAnd x false = true then acc ++ [n] else acc)) (fun k => ?_) h
  simp only [postings_walk_And.j4, litAnd, Option.bind_some]
  rw [if_neg (by decide)]
  by_cases hk : kfAnd x false = true
  · rw [if_pos hk, if_pos ha, if_pos hk]
  · rw [if_neg hk, if_neg hk]
theorem walkAnd_j3t {a b acc : List Int} {n x : Int} {q : Bool} {r : List Int} (h : Ev (fun k => postings_walk_And.j4 k a b acc x true q) r) : Ev (fun k => postings_walk_And.j3 k (x :: a) b acc n true q) r := by
  refine Ev.step (f := fun k => postings_walk_And.j4 k a b acc x true q) (fun k => ?_) h
  have e : rd (x :: a) 0 = x := rfl
  simp only [postings_walk_And.j3, e, List.drop_succ_cons, List.drop_zero]
  rw [if_pos (by trivial), if_pos (by simp only [List.length_cons]; omega), if_pos (by simp only [List.length_cons]; omega)]
theorem walkAnd_j3f {a b acc : List Int} {n : Int} {q : Bool} {r : List Int} (h : Ev (fun k => postings_walk_And.j4 k a b acc n false q) r) : Ev (fun k => postings_walk_And.j3 k a b acc n false q) r := by
  refine Ev.step (f := fun k => postings_walk_And.j4 k a b acc n false q) (fun k => ?_) h
  simp only [postings_walk_And.j3]
  rw [if_neg (by decide)]
theorem walkAnd_j2e {a b acc : List Int} {n : Int} {p q : Bool} : Ev (fun k => postings_walk_And.j2 k a b acc n p q true) acc := by
  refine Ev.step (f := fun _ => some acc) (fun k => ?_) (Ev.now _)
  simp only [postings_walk_And.j2]
  rw [if_pos (by trivial)]
theorem walkAnd_j2o {a b acc : List Int} {n : Int} {p q : Bool} {r : List Int} (hpq : ¬ (p = true ∧ q = true)) (h : Ev (fun k => postings_walk_And.j3 k a b acc n p q) r) : Ev (fun k => postings_walk_And.j2 k a b acc n p q false) r := by
  refine Ev.step (f := fun k => postings_walk_And.j3 k a b acc n p q) (fun k => ?_) h
  simp only [postings_walk_And.j2]
  rw [if_neg (by decide)]
  by_cases hp : p = true
  · rw [if_pos hp, if_neg (fun hq => hpq ⟨hp, hq⟩)]
  · rw [if_neg hp]
theorem walkAnd_j2q {a b acc : List Int} {n x y : Int} {r : List Int} (hxy : x = y) (h : Ev (fun k => postings_walk_And.j3 k (x :: a) (y :: b) acc n true true) r) : Ev (fun k => postings_walk_And.j2 k (x :: a) (y :: b) acc n true true false) r := by
  refine Ev.step (f := fun k => postings_walk_And.j3 k (x :: a) (y :: b) acc n true true) (fun k => ?_) h
  have e : rd (x :: a) 0 = x := rfl
  have e' : rd (y :: b) 0 = y := rfl
  simp only [postings_walk_And.j2, e, e']
  rw [if_neg (by decide), if_pos (by trivial), if_pos (by trivial), if_pos (by simp only [List.length_cons]; omega), if_pos (by simp only [List.length_cons]; omega), if_pos hxy]
theorem walkAnd_j2n {a b acc : List Int} {n x y : Int} {r : List Int} (hxy : ¬ x = y) (h : Ev (fun k => postings_walk_And.j3 k (x :: a) (y :: b) acc n (decide (x < y)) (decide (y < x))) r) : Ev (fun k => postings_walk_And.j2 k (x :: a) (y :: b) acc n true true false) r := by
  refine Ev.step (f := fun k => postings_walk_And.j3 k (x :: a) (y :: b) acc n (decide (x < y)) (decide (y < x))) (fun k => ?_) h
  have e : rd (x :: a) 0 = x := rfl
  have e' : rd (y :: b) 0 = y := rfl
  simp only [postings_walk_And.j2, e, e']
  rw [if_neg (by decide), if_pos (by trivial), if_pos (by trivial), if_pos (by simp only [List.length_cons]; omega), if_pos (by simp only [List.length_cons]; omega), if_neg hxy]
theorem walkAnd_c {a b acc : List Int} {x : Int} {r : List Int} (h : Ev (fun k => postings_walk_And.j2 k (x :: a) b acc 0 true (decide ((b.length : Int) > 0)) false) r) : Ev (fun k => postings_walk_And.l0 k (x :: a) b acc) r := by
  refine Ev.step (f := fun k => postings_walk_And.j2 k (x :: a) b acc 0 true (decide ((b.length : Int) > 0)) false) (fun k => ?_) h
  simp only [postings_walk_And.l0]
  rw [if_pos (by simp only [List.length_cons]; omega), dpos]
theorem walkAnd_n {b acc : List Int} {r : List Int} (h : Ev (fun k => postings_walk_And.j2 k [] b acc 0 false (decide ((b.length : Int) > 0)) (!(decide ((b.length : Int) > 0)))) r) : Ev (fun k => postings_walk_And.l0 k [] b acc) r := by
  refine Ev.step (f := fun k => postings_walk_And.j2 k [] b acc 0 false (decide ((b.length : Int) > 0)) (!(decide ((b.length : Int) > 0)))) (fun k => ?_) h
  simp only [postings_walk_And.l0]
  rw [if_neg (by simp), dzero]
theorem walkAnd_l0 (n : Nat) : ∀ a b acc : List Int, a.length + b.length ≤ n → acc.length + n < 17592186044416 → Ev (fun k => postings_walk_And.l0 k a b acc) (acc ++ mrg kfAnd a b) := by
  have hnn : ∀ acc : List Int, Ev (fun k => postings_walk_And.l0 k [] [] acc) (acc ++ mrg kfAnd [] []) := by
    intro acc
    rw [mrg_nn, List.append_nil]
    refine walkAnd_n ?_
    rw [dzero]
    exact walkAnd_j2e
  induction n with
  | zero =>
    intro a b acc h hl
    obtain rfl : a = [] := List.eq_nil_of_length_eq_zero (by omega)
    obtain rfl : b = [] := List.eq_nil_of_length_eq_zero (by omega)
    exact hnn acc
  | succ n ih =>
    intro a b acc h hl
    have hs : ∀ (c : Bool) (v : Int) (a' b' : List Int), a'.length + b'.length ≤ n → Ev (fun k => postings_walk_And.l0 k a' b' (if c = true then acc ++ [v] else acc)) (acc ++ ((if c = true then [v] else []) ++ mrg kfAnd a' b')) := by
      intro c v a' b' h'
      cases c
      · exact ih a' b' acc h' (by omega)
      · have h2 := ih a' b' (acc ++ [v]) h' (by simp only [List.length_append, List.length_cons, List.length_nil]; omega)
        rw [List.append_assoc] at h2
        exact h2
    rcases a with _ | ⟨x, a⟩ <;> rcases b with _ | ⟨y, b⟩
    · exact hnn acc
    · rw [mrg_nc]
      refine walkAnd_n ?_
      rw [dpos]
      refine walkAnd_j2o (by simp) (walkAnd_j3f (walkAnd_j4t (by omega) (hs _ _ _ _ ?_)))
      simp only [List.length_cons, List.length_nil] at h ⊢
      omega
    · rw [mrg_cn]
      refine walkAnd_c ?_
      rw [dzero]
      refine walkAnd_j2o (by simp) (walkAnd_j3t (walkAnd_j4f (by omega) (hs _ _ _ _ ?_)))
      simp only [List.length_cons, List.length_nil] at h ⊢
      omega
    · refine walkAnd_c ?_
      rw [dpos]
      simp only [List.length_cons] at h
      rcases Int.lt_trichotomy x y with c | c | c
      · rw [mrg_lt _ a b c]
        refine walkAnd_j2n (by omega) ?_
        rw [decide_eq_true c, decide_eq_false (by omega)]
        exact walkAnd_j3t (walkAnd_j4f (by omega) (hs _ _ _ _ (by simp only [List.length_cons]; omega)))
      · rw [mrg_eq _ a b c]
        exact walkAnd_j2q c (walkAnd_j3t (walkAnd_j4t (by omega) (hs _ _ _ _ (by omega))))
      · rw [mrg_gt _ a b c]
        refine walkAnd_j2n (by omega) ?_
        rw [decide_eq_true c, decide_eq_false (by omega)]
        exact walkAnd_j3f (walkAnd_j4t (by omega) (hs _ _ _ _ (by simp only [List.length_cons]; omega)))
theorem walkAnd_j0 {a b : List Int} (c : Bool) (h : a.length + b.length < 17592186044416) : Ev (fun k => postings_walk_And.j0 k a b c) (if c = true then [] else mrg kfAnd a b) := by
  cases c
  · refine Ev.step (f := fun k => postings_walk_And.l0 k a b []) (fun k => ?_) (walkAnd_l0 (a.length + b.length) a b [] (Nat.le_refl _) (by simp only [List.length_nil]; omega))
    simp only [postings_walk_And.j0]
    rw [if_neg (by decide)]
  · refine Ev.step (f := fun _ => some []) (fun k => ?_) (Ev.now _)
    simp only [postings_walk_And.j0]
    rw [if_pos (by trivial)]
theorem And_ev {a b : List Int} (h : a.length + b.length < 17592186044416) : Ev (fun k => postings_And.f k a b) (mrgR kfAnd a b) := by
  unfold postings_And.f postings_walk_And.f mrgR
  refine Ev.bind (a := if ris (-1) a = true ∧ ris (-1) b = true then mrg kfAnd a b else []) ?_ (Ev.now _)
  refine Ev.bind (check_ev (l := a) (by omega)) ?_
  by_cases h1 : ris (-1) a = true
  · refine ev_if_pos h1 (Ev.bind (check_ev (l := b) (by omega)) (ev_eq (walkAnd_j0 _ h) ?_))
    by_cases h2 : ris (-1) b = true <;> simp [h1, h2]
  · refine ev_if_neg h1 (ev_eq (walkAnd_j0 _ h) ?_)
    simp [h1]
theorem refris_l0 (l : List Int) (hn : l.length ≤ 140737488355328) : ∀ (d i : Nat) (m : Int), i + d = l.length → -1 ≤ m → (i = 0 → m = -1) → (∀ h : 0 < i, ∀ h' : i - 1 < l.length, m = l[i - 1]) → Ev (fun k => lysimeterref11_Rising.l0 k l (i : Int)) (ris m (l.drop i)) := by
  intro d
  induction d with
  | zero =>
    intro i m hi _ _ _
    rw [List.drop_of_length_le (by omega)]
    refine Ev.step (f := fun _ => some true) (fun k => ?_) (Ev.now _)
    simp only [lysimeterref11_Rising.l0]
    rw [if_neg (by omega)]
  | succ d ih =>
    intro i m hi hm h0 h1
    have hlt : i < l.length := by omega
    rw [List.drop_eq_getElem_cons hlt]
    by_cases c0 : l[i] < 0
    · refine Ev.step (f := fun _ => some false) (fun k => ?_) (ev_eq (Ev.now _) (by rw [ris, decide_eq_false (by omega)]; rfl))
      simp only [lysimeterref11_Rising.l0]
      rw [if_pos (by omega), if_pos (by omega), rd_nat hlt, if_pos c0]
    · by_cases c2 : l[i] ≥ 1099511627776
      · refine Ev.step (f := fun _ => some false) (fun k => ?_) (ev_eq (Ev.now _) (by rw [ris, decide_eq_false (p := l[i] < 1099511627776) (by omega)]; simp))
        simp only [lysimeterref11_Rising.l0]
        rw [if_pos (by omega), if_pos (by omega), rd_nat hlt, if_neg c0, if_pos c2]
      · have h2 := ih (i + 1) l[i] (by omega) (by omega) (by omega) (fun _ _ => by simp)
        rcases Nat.eq_zero_or_pos i with hz | hz
        · have hm' := h0 hz
          refine Ev.step (f := fun k => lysimeterref11_Rising.l0 k l ((i + 1 : Nat) : Int)) (fun k => ?_) (ev_eq h2 (by rw [ris, decide_eq_true (by omega), decide_eq_true (p := l[i] < 1099511627776) (by omega)]; rfl))
          simp only [lysimeterref11_Rising.l0]
          rw [if_pos (by omega), if_pos (by omega), rd_nat hlt, if_neg c0, if_neg c2, if_neg (by omega), wi1 hlt hn]
        · have hl1 : i - 1 < l.length := by omega
          have hm' := h1 hz hl1
          have e1 : wrap64 ((i : Int) - 1) = ((i - 1 : Nat) : Int) := by rw [w64 (by omega) (by omega)]; omega
          by_cases c1 : l[i] ≤ m
          · refine Ev.step (f := fun _ => some false) (fun k => ?_) (ev_eq (Ev.now _) (by rw [ris, decide_eq_false (by omega)]; rfl))
            simp only [lysimeterref11_Rising.l0]
            rw [if_pos (by omega), if_pos (by omega), rd_nat hlt, if_neg c0, if_neg c2, if_pos (by omega), e1, if_pos (by omega), if_pos (by omega), rd_nat hl1, ← hm', if_pos c1]
          · refine Ev.step (f := fun k => lysimeterref11_Rising.l0 k l ((i + 1 : Nat) : Int)) (fun k => ?_) (ev_eq h2 (by rw [ris, decide_eq_true (by omega), decide_eq_true (p := l[i] < 1099511627776) (by omega)]; rfl))
            simp only [lysimeterref11_Rising.l0]
            rw [if_pos (by omega), if_pos (by omega), rd_nat hlt, if_neg c0, if_neg c2, if_pos (by omega), e1, if_pos (by omega), if_pos (by omega), rd_nat hl1, ← hm', if_neg c1, wi1 hlt hn]
theorem refris_ev {l : List Int} (hn : l.length ≤ 140737488355328) : Ev (fun k => lysimeterref11_Rising.f k l) (ris (-1) l) := refris_l0 l hn l.length 0 (-1) (by omega) (by omega) (fun _ => rfl) (fun h => absurd h (by omega))
def kop (op : Int) : Bool → Bool → Bool := fun x y => if x = true then (if y = true then decide (op < 2) else decide (op > 0)) else (if y = true then decide (op = 1) else false)
section
variable {a b acc : List Int} {op : Int} {i j : Nat} {r : List Int}
theorem refset_a (hi : i < a.length) (hn : a.length ≤ 140737488355328) (hj : b.length ≤ j ∨ ∃ h : j < b.length, a[i] < b[j]) (hacc : acc.length < 17592186044416)
    (h : Ev (fun k => lysimeterref11_Set.l0 k op a b (if decide (op > 0) = true then acc ++ [a[i]] else acc) ((i + 1 : Nat) : Int) (j : Int)) r) : Ev (fun k => lysimeterref11_Set.l0 k op a b acc (i : Int) (j : Int)) r := by
  have h3 : Ev (fun k => lysimeterref11_Set.j3 k op a b acc (i : Int) (j : Int) true) r := by
    refine Ev.step (f := fun k => lysimeterref11_Set.l0 k op a b (if decide (op > 0) = true then acc ++ [a[i]] else acc) ((i + 1 : Nat) : Int) (j : Int)) (fun k => ?_) h
    simp only [lysimeterref11_Set.j3]
    rw [if_pos (by trivial)]
    by_cases ho : op > 0
    · rw [if_pos ho, if_pos (by omega), if_pos (by omega), if_pos hacc, rd_nat hi, wi1 hi hn, if_pos (decide_eq_true ho)]
    · rw [if_neg ho, wi1 hi hn, if_neg (by simpa using ho)]
  have h2 : Ev (fun k => lysimeterref11_Set.j2 k op a b acc (i : Int) (j : Int) true) r := by
    refine Ev.step (f := fun k => lysimeterref11_Set.j3 k op a b acc (i : Int) (j : Int) true) (fun k => ?_) h3
    simp only [lysimeterref11_Set.j2]
    rw [if_pos (by trivial)]
    rcases hj with hj | ⟨hj, hlt⟩
    · rw [if_pos (by omega)]
    · rw [if_neg (by omega), if_pos (by omega), if_pos (by omega), if_pos (by omega), if_pos (by omega), rd_nat hi, rd_nat hj, decide_eq_true hlt]
  refine Ev.step (f := fun k => lysimeterref11_Set.j2 k op a b acc (i : Int) (j : Int) true) (fun k => ?_) h2
  simp only [lysimeterref11_Set.l0]
  rw [if_pos (by omega)]
theorem refset_b (hj : j < b.length) (hn : b.length ≤ 140737488355328) (hi : a.length ≤ i ∨ ∃ h : i < a.length, b[j] < a[i]) (hacc : acc.length < 17592186044416)
    (h : Ev (fun k => lysimeterref11_Set.l0 k op a b (if decide (op = 1) = true then acc ++ [b[j]] else acc) (i : Int) ((j + 1 : Nat) : Int)) r) : Ev (fun k => lysimeterref11_Set.l0 k op a b acc (i : Int) (j : Int)) r := by
  have h4 : Ev (fun k => lysimeterref11_Set.j4 k op a b acc (i : Int) (j : Int) true) r := by
    refine Ev.step (f := fun k => lysimeterref11_Set.l0 k op a b (if decide (op = 1) = true then acc ++ [b[j]] else acc) (i : Int) ((j + 1 : Nat) : Int)) (fun k => ?_) h
    simp only [lysimeterref11_Set.j4]
    rw [if_pos (by trivial)]
    by_cases ho : op = 1
    · rw [if_pos ho, if_pos (by omega), if_pos (by omega), if_pos hacc, rd_nat hj, wi1 hj hn, if_pos (decide_eq_true ho)]
    · rw [if_neg ho, wi1 hj hn, if_neg (by simpa using ho)]
  have h3 : Ev (fun k => lysimeterref11_Set.j3 k op a b acc (i : Int) (j : Int) false) r := by
    refine Ev.step (f := fun k => lysimeterref11_Set.j4 k op a b acc (i : Int) (j : Int) true) (fun k => ?_) h4
    simp only [lysimeterref11_Set.j3]
    rw [if_neg (by decide)]
    rcases hi with hi | ⟨hi, hlt⟩
    · rw [if_pos (by omega)]
    · rw [if_neg (by omega), if_pos (by omega), if_pos (by omega), if_pos (by omega), if_pos (by omega), rd_nat hi, rd_nat hj, decide_eq_true hlt]
  have h2 : Ev (fun k => lysimeterref11_Set.j2 k op a b acc (i : Int) (j : Int) true) r := by
    refine Ev.step (f := fun k => lysimeterref11_Set.j3 k op a b acc (i : Int) (j : Int) false) (fun k => ?_) h3
    simp only [lysimeterref11_Set.j2]
    rw [if_pos (by trivial), if_neg (by omega)]
    rcases hi with hi | ⟨hi, hlt⟩
    · rw [if_neg (by omega)]
    · rw [if_pos (by omega), if_pos (by omega), if_pos (by omega), if_pos (by omega), rd_nat hi, rd_nat hj, decide_eq_false (by omega)]
  refine Ev.step (f := fun k => lysimeterref11_Set.j2 k op a b acc (i : Int) (j : Int) true) (fun k => ?_) h2
  simp only [lysimeterref11_Set.l0]
  by_cases hia : (i : Int) < (a.length : Int)
  · rw [if_pos hia]
  · rw [if_neg hia, decide_eq_true (by omega)]
theorem refset_c (hi : i < a.length) (hj : j < b.length) (hna : a.length ≤ 140737488355328) (hnb : b.length ≤ 140737488355328) (he : a[i] = b[j]) (hacc : acc.length < 17592186044416)
    (h : Ev (fun k => lysimeterref11_Set.l0 k op a b (if decide (op < 2) = true then acc ++ [b[j]] else acc) ((i + 1 : Nat) : Int) ((j + 1 : Nat) : Int)) r) : Ev (fun k => lysimeterref11_Set.l0 k op a b acc (i : Int) (j : Int)) r := by
  have h4 : Ev (fun k => lysimeterref11_Set.j4 k op a b acc (i : Int) (j : Int) false) r := by
    refine Ev.step (f := fun k => lysimeterref11_Set.l0 k op a b (if decide (op < 2) = true then acc ++ [b[j]] else acc) ((i + 1 : Nat) : Int) ((j + 1 : Nat) : Int)) (fun k => ?_) h
    simp only [lysimeterref11_Set.j4]
    rw [if_neg (by decide)]
    by_cases ho : op < 2
    · rw [if_pos ho, if_pos (by omega), if_pos (by omega), if_pos hacc, rd_nat hi, wi1 hi hna, wi1 hj hnb, if_pos (decide_eq_true ho), he]
    · rw [if_neg ho, wi1 hi hna, wi1 hj hnb, if_neg (by simpa using ho)]
  have h3 : Ev (fun k => lysimeterref11_Set.j3 k op a b acc (i : Int) (j : Int) false) r := by
    refine Ev.step (f := fun k => lysimeterref11_Set.j4 k op a b acc (i : Int) (j : Int) false) (fun k => ?_) h4
    simp only [lysimeterref11_Set.j3]
    rw [if_neg (by decide), if_neg (by omega), if_pos (by omega), if_pos (by omega), if_pos (by omega), if_pos (by omega), rd_nat hi, rd_nat hj, decide_eq_false (by omega)]
  have h2 : Ev (fun k => lysimeterref11_Set.j2 k op a b acc (i : Int) (j : Int) true) r := by
    refine Ev.step (f := fun k => lysimeterref11_Set.j3 k op a b acc (i : Int) (j : Int) false) (fun k => ?_) h3
    simp only [lysimeterref11_Set.j2]
    rw [if_pos (by trivial), if_neg (by omega), if_pos (by omega), if_pos (by omega), if_pos (by omega), if_pos (by omega), rd_nat hi, rd_nat hj, decide_eq_false (by omega)]
  refine Ev.step (f := fun k => lysimeterref11_Set.j2 k op a b acc (i : Int) (j : Int) true) (fun k => ?_) h2
  simp only [lysimeterref11_Set.l0]
  rw [if_pos (by omega)]
theorem refset_e (hi : a.length ≤ i) (hj : b.length ≤ j) : Ev (fun k => lysimeterref11_Set.l0 k op a b acc (i : Int) (j : Int)) acc := by
  refine Ev.step (f := fun k => lysimeterref11_Set.j2 k op a b acc (i : Int) (j : Int) false) (fun k => ?_) (Ev.step (f := fun _ => some acc) (fun k => ?_) (Ev.now _))
  · simp only [lysimeterref11_Set.l0]
    rw [if_neg (by omega), decide_eq_false (by omega)]
  · simp only [lysimeterref11_Set.j2]
    rw [if_neg (by decide)]
end
theorem refset_l0 (a b : List Int) (op : Int) (hna : a.length ≤ 140737488355328) (hnb : b.length ≤ 140737488355328) (n : Nat) : ∀ (i j : Nat) (acc : List Int), (a.length - i) + (b.length - j) ≤ n → acc.length + n < 17592186044416 →
    Ev (fun k => lysimeterref11_Set.l0 k op a b acc (i : Int) (j : Int)) (acc ++ mrg (kop op) (a.drop i) (b.drop j)) := by
  have hend : ∀ (i j : Nat) (acc : List Int), a.length ≤ i → b.length ≤ j → Ev (fun k => lysimeterref11_Set.l0 k op a b acc (i : Int) (j : Int)) (acc ++ mrg (kop op) (a.drop i) (b.drop j)) := by
    intro i j acc hi hj
    rw [List.drop_of_length_le hi, List.drop_of_length_le hj, mrg_nn, List.append_nil]
    exact refset_e hi hj
  induction n with
  | zero => intro i j acc h _; exact hend i j acc (by omega) (by omega)
  | succ n ih =>
    intro i j acc h hl
    have hs : ∀ (c : Bool) (v : Int) (i' j' : Nat), (a.length - i') + (b.length - j') ≤ n → Ev (fun k => lysimeterref11_Set.l0 k op a b (if c = true then acc ++ [v] else acc) (i' : Int) (j' : Int)) (acc ++ ((if c = true then [v] else []) ++ mrg (kop op) (a.drop i') (b.drop j'))) := by
      intro c v i' j' h'
      cases c
      · exact ih i' j' acc h' (by omega)
      · have h2 := ih i' j' (acc ++ [v]) h' (by simp only [List.length_append, List.length_cons, List.length_nil]; omega)
        rw [List.append_assoc] at h2
        exact h2
    rcases Nat.lt_or_ge i a.length with hi | hi <;> rcases Nat.lt_or_ge j b.length with hj | hj
    · rw [List.drop_eq_getElem_cons hi, List.drop_eq_getElem_cons hj]
      rcases Int.lt_trichotomy a[i] b[j] with c | c | c
      · rw [mrg_lt _ _ _ c, ← List.drop_eq_getElem_cons hj]
        exact refset_a hi hna (.inr ⟨hj, c⟩) (by omega) (hs _ _ (i + 1) j (by omega))
      · rw [mrg_eq _ _ _ c]
        exact refset_c hi hj hna hnb c (by omega) (hs _ _ (i + 1) (j + 1) (by omega))
      · rw [mrg_gt _ _ _ c, ← List.drop_eq_getElem_cons hi]
        exact refset_b hj hnb (.inr ⟨hi, c⟩) (by omega) (hs _ _ i (j + 1) (by omega))
    · rw [List.drop_eq_getElem_cons hi, List.drop_of_length_le hj, mrg_cn]
      have h2 := hs (decide (op > 0)) a[i] (i + 1) j (by omega)
      rw [List.drop_of_length_le hj] at h2
      exact refset_a hi hna (.inl hj) (by omega) h2
    · rw [List.drop_eq_getElem_cons hj, List.drop_of_length_le hi, mrg_nc]
      have h2 := hs (decide (op = 1)) b[j] i (j + 1) (by omega)
      rw [List.drop_of_length_le hi] at h2
      exact refset_b hj hnb (.inl hi) (by omega) h2
    · exact hend i j acc hi hj
theorem refset_j0 {a b : List Int} (op : Int) (c : Bool) (h : a.length + b.length < 17592186044416) : Ev (fun k => lysimeterref11_Set.j0 k op a b c) (if c = true then [] else mrg (kop op) a b) := by
  cases c
  · have h1 := refset_l0 a b op (by omega) (by omega) (a.length + b.length) 0 0 [] (by omega) (by simp only [List.length_nil]; omega)
    refine Ev.step (f := fun k => lysimeterref11_Set.l0 k op a b [] 0 0) (fun k => ?_) h1
    simp only [lysimeterref11_Set.j0]
    rw [if_neg (by decide)]
  · refine Ev.step (f := fun _ => some []) (fun k => ?_) (Ev.now _)
    simp only [lysimeterref11_Set.j0]
    rw [if_pos (by trivial)]
theorem refset_ev {a b : List Int} (op : Int) (h : a.length + b.length < 17592186044416) : Ev (fun k => lysimeterref11_Set.f k op a b) (mrgR (kop op) a b) := by
  unfold lysimeterref11_Set.f mrgR
  refine Ev.bind (refris_ev (l := a) (by omega)) (Ev.bind (refris_ev (l := b) (by omega)) ?_)
  by_cases h1 : ris (-1) a = true
  · refine ev_if_pos h1 (ev_eq (refset_j0 op _ h) ?_)
    by_cases h2 : ris (-1) b = true <;> simp [h1, h2]
  · refine ev_if_neg h1 (ev_eq (refset_j0 op _ h) ?_)
    simp [h1]
theorem kop0 : kop 0 = kfAnd := by funext x y; cases x <;> cases y <;> rfl
theorem alive14_ev : Ev (fun k => lysimeterlaw14_alive.f k) true := Ev.of lysimeterlaw14_alive.mono (k := 40) (by decide +kernel)
theorem rdL_nat {l : List (List Int)} {i : Nat} (h : i < l.length) : rd_L2 l (i : Int) = l[i] := by
  unfold rd_L2
  rw [Int.toNat_natCast, List.getD_eq_getElem?_getD, List.getElem?_eq_getElem h]; rfl
theorem mrg_self (f : Bool → Bool → Bool) (hf : f true true = true) : ∀ l : List Int, mrg f l l = l
  | [] => mrg_nn f
  | x :: l => by rw [mrg_eq f l l rfl, if_pos hf, mrg_self f hf l]; rfl
def andF (acc : List Int) (t : List (List Int)) : List Int := t.foldl (mrgR kfAnd) acc
def rall (t : List (List Int)) : Bool := t.all (ris (-1))
theorem rall_cons (x : List Int) (t : List (List Int)) : rall (x :: t) = (ris (-1) x && rall t) := by unfold rall; rw [List.all_cons]
def allV : List (List Int) → List Int
  | [] => []
  | x :: t => if rall (x :: t) = true then andF x t else []
theorem andF_len (n : Nat) : ∀ (t : List (List Int)) (acc : List Int), (∀ x ∈ t, x.length ≤ n) → (andF acc t).length ≤ acc.length + n * t.length := by
  intro t
  induction t with
  | nil => intro acc _; exact Nat.le_add_right _ _
  | cons x t ih =>
    intro acc h
    have h1 := ih (mrgR kfAnd acc x) (fun y hy => h y (List.mem_cons_of_mem _ hy))
    have h2 := mrgR_len kfAnd acc x
    have h3 := h x List.mem_cons_self
    simp only [List.length_cons, Nat.mul_add, Nat.mul_one]
    show (andF (mrgR kfAnd acc x) t).length ≤ _
    omega
theorem allV_len {l : List (List Int)} (hn : l.length ≤ 50) (hs : ∀ x ∈ l, x.length ≤ 500) : (allV l).length ≤ 30000 := by
  cases l with
  | nil => exact Nat.zero_le _
  | cons x t =>
    rw [allV]
    by_cases hc : rall (x :: t) = true
    · rw [if_pos hc]
      have h1 := andF_len 500 t x (fun y hy => hs y (List.mem_cons_of_mem _ hy))
      have h2 := hs x List.mem_cons_self
      simp only [List.length_cons] at hn
      have h3 : 500 * t.length ≤ 500 * 50 := Nat.mul_le_mul_left _ (by omega)
      omega
    · rw [if_neg hc]; exact Nat.zero_le _
section
variable {l : List (List Int)}
theorem all_l1 (t : List (List Int)) (hn : t.length ≤ 50) (hs : ∀ x ∈ t, x.length ≤ 500) : ∀ (d i : Nat) (acc : List Int), i + d = t.length → acc.length ≤ 500 * (i + 1) → Ev (fun k => postings_All.l1 k acc t (t.length : Int) (i : Int)) (andF acc (t.drop i)) := by
  intro d
  induction d with
  | zero =>
    intro i acc hi _
    rw [List.drop_of_length_le (by omega)]
    refine Ev.step (f := fun _ => some acc) (fun k => ?_) (Ev.now _)
    simp only [postings_All.l1]
    rw [if_neg (by omega)]
  | succ d ih =>
    intro i acc hi ha
    have hlt : i < t.length := by omega
    have hx := hs t[i] (List.getElem_mem hlt)
    have hm := mrgR_len kfAnd acc t[i]
    have hi50 : 500 * (i + 1) ≤ 500 * 51 := Nat.mul_le_mul_left _ (by omega)
    rw [List.drop_eq_getElem_cons hlt]
    refine Ev.step (f := fun k => (postings_And.f k acc t[i]).bind fun u => postings_All.l1 k u t (t.length : Int) ((i + 1 : Nat) : Int)) (fun k => ?_) (Ev.bind (And_ev (a := acc) (b := t[i]) (by omega)) (ih (i + 1) _ (by omega) (by omega)))
    simp only [postings_All.l1]
    rw [if_pos (by omega), if_pos (by omega), if_pos (by omega), rdL_nat hlt, wi1 hlt (by omega)]
theorem all_l0 (hn : l.length ≤ 50) (hs : ∀ x ∈ l, x.length ≤ 500) {r : List Int} (hend : ∀ i : Int, ¬ i < (l.length : Int) → Ev (fun k => postings_All.l0 k l l (l.length : Int) i) r) : ∀ (d i : Nat), i + d = l.length → Ev (fun k => postings_All.l0 k l l (l.length : Int) (i : Int)) (if rall (l.drop i) = true then r else []) := by
  intro d
  induction d with
  | zero =>
    intro i hi
    rw [List.drop_of_length_le (by omega)]
    exact hend _ (by omega)
  | succ d ih =>
    intro i hi
    have hlt : i < l.length := by omega
    have hx := hs l[i] (List.getElem_mem hlt)
    rw [List.drop_eq_getElem_cons hlt]
    refine Ev.step (f := fun k => (postings_Check.f k l[i]).bind fun u => if u = true then postings_All.l0 k l l (l.length : Int) ((i + 1 : Nat) : Int) else some []) (fun k => ?_) (Ev.bind (check_ev (l := l[i]) (by omega)) ?_)
    · simp only [postings_All.l0]
      rw [if_pos (by omega), if_pos (by omega), if_pos (by omega), rdL_nat hlt, wi1 hlt (by omega)]
    · by_cases h1 : ris (-1) l[i] = true
      · refine ev_if_pos h1 (ev_eq (ih (i + 1) (by omega)) ?_)
        rw [rall_cons, h1, Bool.true_and]
      · refine ev_if_neg h1 (ev_eq (Ev.now _) ?_)
        rw [rall_cons, Bool.eq_false_iff.mpr h1, Bool.false_and]; rfl
theorem all_ev (hn : l.length ≤ 50) (hs : ∀ x ∈ l, x.length ≤ 500) : Ev (fun k => postings_All.f k l) (allV l) := by
  unfold postings_All.f
  cases l with
  | nil =>
    refine Ev.step (f := fun _ => some []) (fun k => ?_) (Ev.now _)
    simp only [postings_All.l0]
    rw [if_neg (by simp), if_pos (by rfl)]
  | cons x t =>
    have hx := hs x List.mem_cons_self
    have hnt : t.length ≤ 50 := by simp only [List.length_cons] at hn; omega
    have h1 := all_l1 t hnt (fun y hy => hs y (List.mem_cons_of_mem _ hy)) t.length 0 x (by omega) (by omega)
    refine all_l0 hn hs (r := andF x t) (fun i hi => ?_) (x :: t).length 0 (by omega)
    refine Ev.step (f := fun k => postings_All.l1 k x t (t.length : Int) 0) (fun k => ?_) h1
    have e : rd_L2 (x :: t) 0 = x := rfl
    have e2 : slices_Clone_int_int.f x = some x := by unfold slices_Clone_int_int.f; rw [if_pos (by omega)]
    simp only [postings_All.l0, e, e2, Option.bind_some, List.drop_succ_cons, List.drop_zero]
    rw [if_neg hi, if_neg (by simp only [List.length_cons]; omega), if_pos (by simp only [List.length_cons]; omega), if_pos (by simp only [List.length_cons]; omega)]
theorem refall_l0 (hn : l.length ≤ 50) (hs : ∀ x ∈ l, x.length ≤ 500) : ∀ (d i : Nat) (acc : List Int), i + d = l.length → acc.length ≤ 500 * (i + 1) → Ev (fun k => lysimeterref11_All.l0 k l acc (i : Int)) (if rall (l.drop i) = true then andF acc (l.drop i) else []) := by
  intro d
  induction d with
  | zero =>
    intro i acc hi ha
    rw [List.drop_of_length_le (by omega)]
    have hi50 : 500 * (i + 1) ≤ 500 * 51 := Nat.mul_le_mul_left _ (by omega)
    refine Ev.step (f := fun _ => some acc) (fun k => ?_) (Ev.now _)
    simp only [lysimeterref11_All.l0]
    rw [if_neg (by omega), if_pos (by simp only [List.length_nil]; omega), List.nil_append]
  | succ d ih =>
    intro i acc hi ha
    have hlt : i < l.length := by omega
    have hx := hs l[i] (List.getElem_mem hlt)
    have hm := mrgR_len kfAnd acc l[i]
    have hi50 : 500 * (i + 1) ≤ 500 * 51 := Nat.mul_le_mul_left _ (by omega)
    rw [List.drop_eq_getElem_cons hlt]
    refine Ev.step (f := fun k => (lysimeterref11_Rising.f k l[i]).bind fun u => if u = true then (lysimeterref11_Set.f k 0 acc l[i]).bind fun v => lysimeterref11_All.l0 k l v ((i + 1 : Nat) : Int) else some []) (fun k => ?_) (Ev.bind (refris_ev (l := l[i]) (by omega)) ?_)
    · simp only [lysimeterref11_All.l0]
      rw [if_pos (by omega), if_pos (by omega), rdL_nat hlt, wi1 hlt (by omega)]
    · by_cases h1 : ris (-1) l[i] = true
      · have h2 := refset_ev (a := acc) (b := l[i]) 0 (by omega)
        rw [kop0] at h2
        refine ev_if_pos h1 (Ev.bind h2 (ev_eq (ih (i + 1) _ (by omega) (by omega)) ?_))
        rw [rall_cons, h1, Bool.true_and]; rfl
      · refine ev_if_neg h1 (ev_eq (Ev.now _) ?_)
        rw [rall_cons, Bool.eq_false_iff.mpr h1, Bool.false_and]; rfl
theorem refall_ev (hn : l.length ≤ 50) (hs : ∀ x ∈ l, x.length ≤ 500) : Ev (fun k => lysimeterref11_All.f k l) (allV l) := by
  unfold lysimeterref11_All.f
  cases l with
  | nil => exact ev_if_pos rfl (Ev.now _)
  | cons x t =>
    have hx := hs x List.mem_cons_self
    refine ev_if_neg (by simp only [List.length_cons]; omega) (ev_if_pos (by simp only [List.length_cons]; omega) ?_)
    refine ev_eq (refall_l0 hn hs (x :: t).length 0 x (by omega) (by omega)) ?_
    rw [List.drop_zero, allV]
    by_cases h : rall (x :: t) = true
    · have hr : ris (-1) x = true := by
        simp only [rall, List.all_cons, Bool.and_eq_true] at h
        exact h.1
      rw [if_pos h, if_pos h]
      show andF (mrgR kfAnd x x) t = andF x t
      unfold mrgR
      rw [if_pos ⟨hr, hr⟩, mrg_self kfAnd rfl]
    · rw [if_neg h, if_neg h]
end
theorem fill_l1 {l : List (List Int)} {r : Bool} (h : ∀ s i, ¬ i < (s.length : Int) → Ev (fun k => lysimeterlaw14_PostingsAll.l1 k l s true i) r) : ∀ (d i : Nat) (s : List Int), i + d = s.length → s.length ≤ 140737488355328 →
    Ev (fun k => lysimeterlaw14_PostingsAll.l1 k l s true (i : Int)) r := by
  intro d
  induction d with
  | zero => intro i s hi hn; exact h s _ (by omega)
  | succ d ih =>
    intro i s hi hn
    refine Ev.step (f := fun k => lysimeterlaw14_PostingsAll.l1 k l (s.set (i : Int).toNat (-1)) true ((i + 1 : Nat) : Int)) (fun k => ?_) (ih (i + 1) _ (by rw [List.length_set]; omega) (by rw [List.length_set]; omega))
    simp only [lysimeterlaw14_PostingsAll.l1]
    rw [if_pos (by omega), if_pos (by omega), wi1 (n := s.length) (by omega) hn]
theorem law_l0 {l : List (List Int)} (hn : l.length ≤ 50) (h : (∀ x ∈ l, x.length ≤ 500) → ∀ i : Int, ¬ i < (l.length : Int) → Ev (fun k => lysimeterlaw14_PostingsAll.l0 k l i) true) : ∀ (d i : Nat), i + d = l.length → (∀ j (hj : j < l.length), j < i → l[j].length ≤ 500) → Ev (fun k => lysimeterlaw14_PostingsAll.l0 k l (i : Int)) true := by
  intro d
  induction d with
  | zero =>
    intro i hi hj
    refine h (fun x hx => ?_) _ (by omega)
    obtain ⟨j, hjl, rfl⟩ := List.getElem_of_mem hx
    exact hj j hjl (by omega)
  | succ d ih =>
    intro i hi hj
    have hlt : i < l.length := by omega
    by_cases c : (l[i].length : Int) > 500
    · refine Ev.step (f := fun _ => some true) (fun k => ?_) (Ev.now _)
      simp only [lysimeterlaw14_PostingsAll.l0]
      rw [if_pos (by omega), if_pos (by omega), rdL_nat hlt, if_pos c]
    · refine Ev.step (f := fun k => lysimeterlaw14_PostingsAll.l0 k l ((i + 1 : Nat) : Int)) (fun k => ?_) (ih (i + 1) (by omega) (fun j hjl hji => ?_))
      · simp only [lysimeterlaw14_PostingsAll.l0]
        rw [if_pos (by omega), if_pos (by omega), rdL_nat hlt, if_neg c, wi1 hlt (by omega)]
      · by_cases e : j = i
        · subst e; omega
        · exact hj j hjl (by omega)
theorem PostingsAll : lysimeterlaw14_PostingsAll.Pure := by
  intro l _
  refine Ev.rounds (g := fun k => lysimeterlaw14_PostingsAll.f k l) ?_
  unfold lysimeterlaw14_PostingsAll.f
  refine Ev.bind alive14_ev (ev_if_pos rfl ?_)
  by_cases c1 : (l.length : Int) > 50
  · rw [decide_eq_true c1]
    refine Ev.step (f := fun _ => some true) (fun k => ?_) (Ev.now _)
    simp only [lysimeterlaw14_PostingsAll.j0]
    rw [if_pos (by trivial)]
  · rw [decide_eq_false c1]
    have hn : l.length ≤ 50 := by omega
    refine Ev.step (f := fun k => lysimeterlaw14_PostingsAll.l0 k l 0) (fun k => ?_) ?_
    · simp only [lysimeterlaw14_PostingsAll.j0]
      rw [if_neg (by decide)]
    · refine law_l0 hn (fun hs i hi => ?_) l.length 0 (by omega) (fun j _ hj => absurd hj (by omega))
      have hv := allV_len hn hs
      have e1 := all_ev hn hs
      have e2 := refall_ev hn hs
      have fin : Ev (fun k => (postings_All.f k l).bind fun a => (lysimeterref11_All.f k l).bind fun b => (lysimeterlaw6_SameInts.f k a b).bind fun c => some c) true :=
        Ev.bind e1 (Ev.bind e2 (Ev.bind (same_self (by omega)) (Ev.now _)))
      refine Ev.step (f := fun k => (postings_All.f k l).bind fun a => (lysimeterref11_All.f k l).bind fun b => (lysimeterlaw6_SameInts.f k a b).bind fun c => lysimeterlaw14_PostingsAll.l1 k l a c 0) (fun k => ?_) (Ev.bind e1 (Ev.bind e2 (Ev.bind (same_self (by omega)) ?_)))
      · simp only [lysimeterlaw14_PostingsAll.l0]
        rw [if_neg hi]
      · refine fill_l1 (fun s i hi => ?_) _ 0 _ (Nat.zero_add _) (by omega)
        refine Ev.step (f := fun k => (postings_All.f k l).bind fun a => (lysimeterref11_All.f k l).bind fun b => (lysimeterlaw6_SameInts.f k a b).bind fun c => some c) (fun k => ?_) fin
        simp only [lysimeterlaw14_PostingsAll.l1]
        rw [if_neg hi, if_pos (by trivial)]

end Go.Proofs.Ytjilnpbgclnecab.Pure
