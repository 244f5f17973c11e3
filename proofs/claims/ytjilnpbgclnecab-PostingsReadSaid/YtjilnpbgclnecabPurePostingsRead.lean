/- What list the program's postings.Unpack reads at the beginning of all bytes is what the document's reference reads there (statement PostingsRead); no condition. -/
import Derived.Test.YtjilnpbgclnecabPPostingsReadx5
import Derived.Test.YtjilnpbgclnecabXPure
set_option linter.unusedVariables false
set_option linter.unusedSimpArgs false
namespace Go.Proofs.Ytjilnpbgclnecab.Pure
open Go Go.RowKit Go.Proofs.Ytjilnpbgclnecab.PPostingsRead Go.Proofs.Ytjilnpbgclnecab.XP Go.Proofs.YtjilnpbgclnecabW.PrintWords Go.Proofs.YtjilnpbgclnecabW.PrintLast Go.Proofs.YtjilnpbgclnecabW.PrintMore

/-! ### rising lists, and what two of them make together -/
def ris (m : Int) : List Int → Bool
  | [] => true
  | x :: l => decide (m < x) && (decide (x < 1099511627776) && ris x l)
theorem ris_cons {m x : Int} {l : List Int} : ris m (x :: l) = true ↔ m < x ∧ x < 1099511627776 ∧ ris x l = true := by simp [ris]
def mrg (f : Bool → Bool → Bool) : List Int → List Int → List Int
  | [], [] => []
  | x :: a, [] => (if f true false = true then [x] else []) ++ mrg f a []
  | [], y :: b => (if f false true = true then [y] else []) ++ mrg f [] b
  | x :: a, y :: b =>
    if x = y then (if f true true = true then [y] else []) ++ mrg f a b
    else if x < y then (if f true false = true then [x] else []) ++ mrg f a (y :: b)
    else (if f false true = true then [y] else []) ++ mrg f (x :: a) b
termination_by a b => a.length + b.length
decreasing_by all_goals (simp only [List.length_cons, List.length_nil]; omega)
theorem mrg_nn (f : Bool → Bool → Bool) : mrg f [] [] = [] := by rw [mrg]
theorem mrg_cn (f : Bool → Bool → Bool) (x : Int) (a : List Int) : mrg f (x :: a) [] = (if f true false = true then [x] else []) ++ mrg f a [] := by rw [mrg]
theorem mrg_nc (f : Bool → Bool → Bool) (y : Int) (b : List Int) : mrg f [] (y :: b) = (if f false true = true then [y] else []) ++ mrg f [] b := by rw [mrg]
theorem mrg_eq (f : Bool → Bool → Bool) {x y : Int} (a b : List Int) (h : x = y) : mrg f (x :: a) (y :: b) = (if f true true = true then [y] else []) ++ mrg f a b := by rw [mrg, if_pos h]
theorem mrg_lt (f : Bool → Bool → Bool) {x y : Int} (a b : List Int) (h : x < y) : mrg f (x :: a) (y :: b) = (if f true false = true then [x] else []) ++ mrg f a (y :: b) := by rw [mrg, if_neg (by omega), if_pos h]
theorem mrg_gt (f : Bool → Bool → Bool) {x y : Int} (a b : List Int) (h : y < x) : mrg f (x :: a) (y :: b) = (if f false true = true then [y] else []) ++ mrg f (x :: a) b := by rw [mrg, if_neg (by omega), if_neg (by omega)]
theorem rd_nat {l : List Int} {i : Nat} (h : i < l.length) : rd l (i : Int) = l[i] := by
  unfold rd
  rw [Int.toNat_natCast, List.getD_eq_getElem?_getD, List.getElem?_eq_getElem h]; rfl
theorem wi1 {i n : Nat} (h : i < n) (hn : n ≤ 140737488355328) : wrap64 ((i : Int) + 1) = ((i + 1 : Nat) : Int) := by rw [w64 (by omega) (by omega)]; omega
theorem check_l0 (l : List Int) (hn : l.length ≤ 140737488355328) : ∀ (d i : Nat) (m : Int), i + d = l.length → Ev (fun k => postings_Check.l0 k m l (l.length : Int) (i : Int)) (ris m (l.drop i)) := by
  intro d
  induction d with
  | zero =>
    intro i m hi
    rw [List.drop_of_length_le (by omega)]
    refine Ev.step (f := fun _ => some true) (fun k => ?_) (Ev.now _)
    simp only [postings_Check.l0]
    rw [if_neg (by omega)]
  | succ d ih =>
    intro i m hi
    have hlt : i < l.length := by omega
    rw [List.drop_eq_getElem_cons hlt]
    have h1 := ih (i + 1) l[i] (by omega)
    by_cases c1 : l[i] ≤ m
    · refine Ev.step (f := fun _ => some false) (fun k => ?_) (ev_eq (Ev.now _) (by rw [ris, decide_eq_false (by omega)]; rfl))
      simp only [postings_Check.l0]
      rw [if_pos (by omega), if_pos (by omega), if_pos (by omega), rd_nat hlt, if_pos c1]
    · by_cases c2 : l[i] ≥ 1099511627776
      · refine Ev.step (f := fun _ => some false) (fun k => ?_) (ev_eq (Ev.now _) (by rw [ris, decide_eq_true (by omega), decide_eq_false (p := l[i] < 1099511627776) (by omega)]; rfl))
        simp only [postings_Check.l0]
        rw [if_pos (by omega), if_pos (by omega), if_pos (by omega), rd_nat hlt, if_neg c1, if_pos c2]
      · refine Ev.step (f := fun k => postings_Check.l0 k l[i] l (l.length : Int) ((i + 1 : Nat) : Int)) (fun k => ?_) (ev_eq h1 (by rw [ris, decide_eq_true (by omega), decide_eq_true (p := l[i] < 1099511627776) (by omega)]; rfl))
        simp only [postings_Check.l0]
        rw [if_pos (by omega), if_pos (by omega), if_pos (by omega), rd_nat hlt, if_neg c1, if_neg c2, wi1 hlt hn]
theorem check_ev {l : List Int} (hn : l.length ≤ 140737488355328) : Ev (fun k => postings_Check.f k l) (ris (-1) l) := check_l0 l hn l.length 0 (-1) (by omega)
theorem dpos (y : Int) (b : List Int) : decide (((y :: b : List Int).length : Int) > 0) = true := decide_eq_true (by simp only [List.length_cons]; omega)
theorem dzero : decide ((([] : List Int).length : Int) > 0) = false := rfl
theorem same_l0 (a b : List Int) (hab : a.length = b.length) (hn : a.length ≤ 140737488355328) : ∀ (d i : Nat), i + d = a.length → Ev (fun k => lysimeterlaw6_SameInts.l0 k a b (i : Int)) (decide (a.drop i = b.drop i)) := by
  intro d
  induction d with
  | zero =>
    intro i hi
    rw [List.drop_of_length_le (by omega), List.drop_of_length_le (by omega)]
    refine Ev.step (f := fun _ => some true) (fun k => ?_) (ev_eq (Ev.now _) (by simp))
    simp only [lysimeterlaw6_SameInts.l0]
    rw [if_neg (by omega)]
  | succ d ih =>
    intro i hi
    have hlt : i < a.length := by omega
    have hlt' : i < b.length := by omega
    rw [List.drop_eq_getElem_cons hlt, List.drop_eq_getElem_cons hlt']
    by_cases c1 : a[i] = b[i]
    · refine Ev.step (f := fun k => lysimeterlaw6_SameInts.l0 k a b ((i + 1 : Nat) : Int)) (fun k => ?_) (ev_eq (ih (i + 1) (by omega)) (by rw [decide_eq_decide, List.cons.injEq]; exact ⟨fun e => ⟨c1, e⟩, fun e => e.2⟩))
      simp only [lysimeterlaw6_SameInts.l0]
      rw [if_pos (by omega), if_pos (by omega), if_pos (by omega), rd_nat hlt, rd_nat hlt', if_pos c1, wi1 hlt hn]
    · refine Ev.step (f := fun _ => some false) (fun k => ?_) (ev_eq (Ev.now _) (by rw [decide_eq_false]; intro e; exact c1 (List.cons.inj e).1))
      simp only [lysimeterlaw6_SameInts.l0]
      rw [if_pos (by omega), if_pos (by omega), if_pos (by omega), rd_nat hlt, rd_nat hlt', if_neg c1]
theorem same_ev {a b : List Int} (hn : a.length ≤ 140737488355328) : Ev (fun k => lysimeterlaw6_SameInts.f k a b) (decide (a = b)) := by
  unfold lysimeterlaw6_SameInts.f
  by_cases h : a.length = b.length
  · exact ev_if_pos (by omega) (same_l0 a b h hn a.length 0 (by omega))
  · exact ev_if_neg (by omega) (ev_eq (Ev.now _) (by rw [decide_eq_false]; intro e; exact h (congrArg List.length e)))
theorem same_self {a : List Int} (hn : a.length ≤ 140737488355328) : Ev (fun k => lysimeterlaw6_SameInts.f k a a) true := ev_eq (same_ev hn) (by simp)
theorem mrg_len (f : Bool → Bool → Bool) (n : Nat) : ∀ a b : List Int, a.length + b.length ≤ n → (mrg f a b).length ≤ a.length + b.length := by
  have hone : ∀ (c : Bool) (v : Int) (l : List Int), ((if c = true then [v] else []) ++ l).length ≤ l.length + 1 := by
    intro c v l
    cases c <;> simp
  induction n with
  | zero =>
    intro a b h
    obtain rfl : a = [] := List.eq_nil_of_length_eq_zero (by omega)
    obtain rfl : b = [] := List.eq_nil_of_length_eq_zero (by omega)
    rw [mrg_nn]; simp
  | succ n ih =>
    intro a b h
    rcases a with _ | ⟨x, a⟩ <;> rcases b with _ | ⟨y, b⟩
    · rw [mrg_nn]; simp
    · rw [mrg_nc]
      simp only [List.length_cons, List.length_nil] at h ⊢
      have h1 := ih [] b (by simp only [List.length_nil]; omega)
      have h2 := hone (f false true) y (mrg f [] b)
      simp only [List.length_nil] at h1
      omega
    · rw [mrg_cn]
      simp only [List.length_cons, List.length_nil] at h ⊢
      have h1 := ih a [] (by simp only [List.length_nil]; omega)
      have h2 := hone (f true false) x (mrg f a [])
      simp only [List.length_nil] at h1
      omega
    · simp only [List.length_cons] at h
      rcases Int.lt_trichotomy x y with c | c | c
      · rw [mrg_lt f a b c]
        have h1 := ih a (y :: b) (by simp only [List.length_cons]; omega)
        have h2 := hone (f true false) x (mrg f a (y :: b))
        simp only [List.length_cons] at h1 ⊢
        omega
      · rw [mrg_eq f a b c]
        have h1 := ih a b (by omega)
        have h2 := hone (f true true) y (mrg f a b)
        simp only [List.length_cons]
        omega
      · rw [mrg_gt f a b c]
        have h1 := ih (x :: a) b (by simp only [List.length_cons]; omega)
        have h2 := hone (f false true) y (mrg f (x :: a) b)
        simp only [List.length_cons] at h1 ⊢
        omega
def mrgR (f : Bool → Bool → Bool) (a b : List Int) : List Int := if ris (-1) a = true ∧ ris (-1) b = true then mrg f a b else []
theorem mrgR_len (f : Bool → Bool → Bool) (a b : List Int) : (mrgR f a b).length ≤ a.length + b.length := by
  unfold mrgR
  split
  · exact mrg_len f _ a b (Nat.le_refl _)
  · simp
theorem refris_l0 (l : List Int) (hn : l.length ≤ 140737488355328) : ∀ (d i : Nat) (m : Int), i + d = l.length → -1 ≤ m → (i = 0 → m = -1) → (∀ h : 0 < i, ∀ h' : i - 1 < l.length, m = l[i - 1]) → Ev (fun k => lysimeterref11_Rising.l0 k l (i : Int)) (ris m (l.drop i)) := by
  intro d
  induction d with
  | zero =>
    intro i m hi _ _ _
    rw [List.drop_of_length_le (by omega)]
    refine Ev.step (f := fun _ => some true) (fun k => ?_) (Ev.now _)
    simp only [lysimeterref11_Rising.l0]
    rw [if_neg (by omega)]
  | succ d ih =>
    intro i m hi hm h0 h1
    have hlt : i < l.length := by omega
    rw [List.drop_eq_getElem_cons hlt]
    by_cases c0 : l[i] < 0
    · refine Ev.step (f := fun _ => some false) (fun k => ?_) (ev_eq (Ev.now _) (by rw [ris, decide_eq_false (by omega)]; rfl))
      simp only [lysimeterref11_Rising.l0]
      rw [if_pos (by omega), if_pos (by omega), rd_nat hlt, if_pos c0]
    · by_cases c2 : l[i] ≥ 1099511627776
      · refine Ev.step (f := fun _ => some false) (fun k => ?_) (ev_eq (Ev.now _) (by rw [ris, decide_eq_false (p := l[i] < 1099511627776) (by omega)]; simp))
        simp only [lysimeterref11_Rising.l0]
        rw [if_pos (by omega), if_pos (by omega), rd_nat hlt, if_neg c0, if_pos c2]
      · have h2 := ih (i + 1) l[i] (by omega) (by omega) (by omega) (fun _ _ => by simp)
        rcases Nat.eq_zero_or_pos i with hz | hz
        · have hm' := h0 hz
          refine Ev.step (f := fun k => lysimeterref11_Rising.l0 k l ((i + 1 : Nat) : Int)) (fun k => ?_) (ev_eq h2 (by rw [ris, decide_eq_true (by omega), decide_eq_true (p := l[i] < 1099511627776) (by omega)]; rfl))
          simp only [lysimeterref11_Rising.l0]
          rw [if_pos (by omega), if_pos (by omega), rd_nat hlt, if_neg c0, if_neg c2, if_neg (by omega), wi1 hlt hn]
        · have hl1 : i - 1 < l.length := by omega
          have hm' := h1 hz hl1
          have e1 : wrap64 ((i : Int) - 1) = ((i - 1 : Nat) : Int) := by rw [w64 (by omega) (by omega)]; omega
          by_cases c1 : l[i] ≤ m
          · refine Ev.step (f := fun _ => some false) (fun k => ?_) (ev_eq (Ev.now _) (by rw [ris, decide_eq_false (by omega)]; rfl))
            simp only [lysimeterref11_Rising.l0]
            rw [if_pos (by omega), if_pos (by omega), rd_nat hlt, if_neg c0, if_neg c2, if_pos (by omega), e1, if_pos (by omega), if_pos (by omega), rd_nat hl1, ← hm', if_pos c1]
          · refine Ev.step (f := fun k => lysimeterref11_Rising.l0 k l ((i + 1 : Nat) : Int)) (fun k => ?_) (ev_eq h2 (by rw [ris, decide_eq_true (by omega), decide_eq_true (p := l[i] < 1099511627776) (by omega)]; rfl))
            simp only [lysimeterref11_Rising.l0]
            rw [if_pos (by omega), if_pos (by omega), rd_nat hlt, if_neg c0, if_neg c2, if_pos (by omega), e1, if_pos (by omega), if_pos (by omega), rd_nat hl1, ← hm', if_neg c1, wi1 hlt hn]
theorem refris_ev {l : List Int} (hn : l.length ≤ 140737488355328) : Ev (fun k => lysimeterref11_Rising.f k l) (ris (-1) l) := refris_l0 l hn l.length 0 (-1) (by omega) (by omega) (fun _ => rfl) (fun h => absurd h (by omega))
/-! ### numbers in few bytes -/
def vput (u : Nat) : List Int := if u < 128 then [(u : Int)] else ((u % 128 + 128 : Nat) : Int) :: vput (u / 128)
termination_by u
decreasing_by omega
theorem vput_small {u : Nat} (h : u < 128) : vput u = [(u : Int)] := by rw [vput, if_pos h]
theorem vput_big {u : Nat} (h : ¬ u < 128) : vput u = ((u % 128 + 128 : Nat) : Int) :: vput (u / 128) := by rw [vput, if_neg h]
theorem vput_len (n : Nat) : ∀ u, u < 2 ^ (7 * n) → 0 < n → 1 ≤ (vput u).length ∧ (vput u).length ≤ n := by
  induction n with
  | zero => intro u _ h; exact absurd h (by omega)
  | succ n ih =>
    intro u hu _
    by_cases h : u < 128
    · rw [vput_small h]; simp
    · rw [vput_big h]
      have hp : (2 : Nat) ^ (7 * (n + 1)) = 128 * 2 ^ (7 * n) := by rw [Nat.mul_add, Nat.pow_add]; omega
      have hn : 0 < n := by
        rcases Nat.eq_zero_or_pos n with h0 | h0
        · subst h0; simp at hp; omega
        · exact h0
      have := ih (u / 128) (by omega) hn
      simp only [List.length_cons]
      omega
theorem vput_len10 {u : Nat} (h : u < 18446744073709551616) : 1 ≤ (vput u).length ∧ (vput u).length ≤ 10 := vput_len 10 u (by omega) (by decide)
theorem vput_range (n : Nat) : ∀ u, u ≤ n → ∀ x ∈ vput u, 0 ≤ x ∧ x ≤ 255 := by
  induction n with
  | zero =>
    intro u hu x hx
    rw [vput_small (by omega)] at hx
    simp at hx
    omega
  | succ n ih =>
    intro u hu x hx
    by_cases h : u < 128
    · rw [vput_small h] at hx; simp at hx; omega
    · rw [vput_big h] at hx
      rcases List.mem_cons.1 hx with rfl | hx
      · omega
      · exact ih (u / 128) (by omega) x hx
theorem put_l0 (n : Nat) : ∀ (u : Nat) (acc : List Int), u ≤ n → acc.length + (vput u).length < 140737488355328 → Ev (fun k => varint_Put.l0 k acc (u : Int)) (acc ++ vput u) := by
  induction n with
  | zero =>
    intro u acc hu hl
    refine Ev.step (f := fun _ => some (acc ++ vput u)) (fun k => ?_) (Ev.now _)
    have h : u < 128 := by omega
    have hl' := hl
    rw [vput_small h] at hl ⊢
    simp only [varint_Put.l0]
    rw [if_neg (by omega), if_pos (by simp at hl; omega), show ((u : Int) % 256) = (u : Int) from by omega]
  | succ n ih =>
    intro u acc hu hl
    by_cases h : u < 128
    · refine Ev.step (f := fun _ => some (acc ++ vput u)) (fun k => ?_) (Ev.now _)
      rw [vput_small h] at hl ⊢
      simp only [varint_Put.l0]
      rw [if_neg (by omega), if_pos (by simp at hl; omega), show ((u : Int) % 256) = (u : Int) from by omega]
    · rw [vput_big h] at hl ⊢
      simp only [List.length_cons] at hl
      have h1 := ih (u / 128) (acc ++ [((u % 128 + 128 : Nat) : Int)]) (by omega) (by simp; omega)
      rw [List.append_assoc] at h1
      refine Ev.step (f := fun k => varint_Put.l0 k (acc ++ [((u % 128 + 128 : Nat) : Int)]) ((u / 128 : Nat) : Int)) (fun k => ?_) h1
      simp only [varint_Put.l0]
      rw [if_pos (by omega), if_pos (by omega), or128, show ((u : Int) / 128) = ((u / 128 : Nat) : Int) from by omega]
def u64N (n : Int) : Nat := (n % 18446744073709551616).toNat
theorem u64N_lt (n : Int) : u64N n < 18446744073709551616 := by unfold u64N; omega
theorem u64N_eq (n : Int) : IntKind.u64.wrap n = ((u64N n : Nat) : Int) := by rw [wu64]; unfold u64N; omega
theorem put_ev (n : Int) : Ev (fun k => varint_Put.f k n) (vput (u64N n)) := by
  unfold varint_Put.f
  rw [u64N_eq]
  exact put_l0 _ _ [] (Nat.le_refl _) (by have := vput_len10 (u64N_lt n); simp; omega)
/-! ### numbers out of few bytes -/
def vgetA : List Int → Nat → Nat → Option (Nat × Nat)
  | [], _, _ => none
  | x :: l, i, u =>
    if i = 9 ∧ x > 1 then none
    else if x ≥ 128 then vgetA l (i + 1) (u + x.toNat % 128 * 2 ^ (7 * i))
    else if x = 0 ∧ i > 0 then none
    else some (u + x.toNat % 128 * 2 ^ (7 * i), i + 1)
def vres : Option (Nat × Nat) → Int × Int × Int
  | none => (0, 0, 5)
  | some (u, n) => (wrap64 (u : Int), (n : Int), 0)
def vget (l : List Int) : Int × Int × Int := vres (vgetA l 0 0)
theorem pow7 {i : Nat} (h : i ≤ 8) : (2 : Nat) ^ (7 * (i + 1)) = 128 * 2 ^ (7 * i) ∧ 2 ^ (7 * i) ≤ 72057594037927936 := by
  refine ⟨by rw [Nat.mul_add, Nat.pow_add]; omega, ?_⟩
  calc 2 ^ (7 * i) ≤ 2 ^ 56 := Nat.pow_le_pow_right (by decide) (by omega)
    _ = 72057594037927936 := by decide
theorem shl7 {i : Nat} (hi : i ≤ 9) {c : Nat} (hc : c * 2 ^ (7 * i) < 18446744073709551616) (y : Int) (hy : y = 7 * (i : Int)) : shl .u64 (c : Int) y = ((c * 2 ^ (7 * i) : Nat) : Int) := by
  unfold shl
  have h1 : min y.toNat IntKind.u64.bits = 7 * i := by
    show min y.toNat 64 = 7 * i
    omega
  rw [h1, wu64]
  have h2 : ((c : Int) * 2 ^ (7 * i)) = ((c * 2 ^ (7 * i) : Nat) : Int) := by simp
  rw [h2]
  omega
theorem get_bound {i u : Nat} {x : Int} (hi : i ≤ 9) (hu : u < 2 ^ (7 * i)) (h0 : 0 ≤ x) (h1 : x ≤ 255) (h9 : ¬ (i = 9 ∧ x > 1)) :
    u < 18446744073709551616 ∧ x.toNat % 128 * 2 ^ (7 * i) < 18446744073709551616 ∧ u + x.toNat % 128 * 2 ^ (7 * i) < 18446744073709551616 ∧ (x ≥ 128 → i + 1 ≤ 9 ∧ u + x.toNat % 128 * 2 ^ (7 * i) < 2 ^ (7 * (i + 1))) := by
  rcases Nat.lt_or_ge i 9 with hlt | hge
  · have hp := pow7 (i := i) (by omega)
    have hc : x.toNat % 128 ≤ 127 := by omega
    have hm : x.toNat % 128 * 2 ^ (7 * i) ≤ 127 * 2 ^ (7 * i) := Nat.mul_le_mul_right _ hc
    refine ⟨by omega, by omega, by omega, fun _ => ⟨by omega, by omega⟩⟩
  · have he : i = 9 := by omega
    subst he
    have hx : x ≤ 1 := by omega
    have hc : x.toNat % 128 ≤ 1 := by omega
    have hm : x.toNat % 128 * 2 ^ (7 * 9) ≤ 1 * 2 ^ (7 * 9) := Nat.mul_le_mul_right _ hc
    have hp : (2 : Nat) ^ (7 * 9) = 9223372036854775808 := by decide
    rw [hp] at hu hm ⊢
    refine ⟨by omega, by omega, by omega, fun h => absurd h (by omega)⟩
theorem get_l0 (l : List Int) (hl : ∀ x ∈ l, 0 ≤ x ∧ x ≤ 255) (hn : l.length ≤ 140737488355328) : ∀ (d i u : Nat), i + d = l.length → i ≤ 9 → u < 2 ^ (7 * i) →
    Ev (fun k => varint_Get.l0 k (u : Int) l (l.length : Int) (i : Int)) (vres (vgetA (l.drop i) i u)) := by
  intro d
  induction d with
  | zero =>
    intro i u hi _ _
    refine Ev.step (f := fun _ => some (0, 0, 5)) (fun k => ?_) ?_
    · simp only [varint_Get.l0]
      rw [if_neg (by omega)]
    · rw [List.drop_of_length_le (by omega)]
      exact Ev.now _
  | succ d ih =>
    intro i u hi hi9 hu
    have hlt : i < l.length := by omega
    have hm := hl l[i] (List.getElem_mem hlt)
    have hr : rd l (i : Int) = l[i] := by
      unfold rd
      rw [Int.toNat_natCast, List.getD_eq_getElem?_getD, List.getElem?_eq_getElem hlt]; rfl
    have h7 : wrap64 (7 * (i : Int)) = 7 * (i : Int) := w64 (by omega) (by omega)
    have hi1 : wrap64 ((i : Int) + 1) = ((i + 1 : Nat) : Int) := by rw [w64 (by omega) (by omega)]; omega
    have key : Ev (fun k => varint_Get.j1 k (u : Int) (i : Int) l[i] l (l.length : Int) (i : Int) (decide (i = 9 ∧ l[i] > 1))) (vres (vgetA (l.drop i) i u)) := by
      rw [List.drop_eq_getElem_cons hlt]
      simp only [vgetA]
      by_cases h9 : i = 9 ∧ l[i] > 1
      · rw [decide_eq_true h9, if_pos h9]
        refine Ev.step (f := fun _ => some (0, 0, 5)) (fun k => ?_) (Ev.now _)
        simp only [varint_Get.j1, if_true]
      · rw [decide_eq_false h9, if_neg h9]
        obtain ⟨b1, b2, b3, b4⟩ := get_bound hi9 hu hm.1 hm.2 h9
        have hc : IntKind.u64.wrap (Go.bits .and .u8 l[i] 127) = ((l[i].toNat % 128 : Nat) : Int) := by rw [and127_u8 hm.1 hm.2, wu64]; omega
        have ho : Go.bits .or .u64 (u : Int) (shl .u64 (IntKind.u64.wrap (Go.bits .and .u8 l[i] 127)) (wrap64 (7 * (i : Int)))) = ((u + l[i].toNat % 128 * 2 ^ (7 * i) : Nat) : Int) := by
          rw [hc, shl7 hi9 b2 _ h7, or_high (7 * i) hu b1 b2]
        by_cases hge : l[i] ≥ 128
        · rw [if_pos hge]
          have h1 := ih (i + 1) (u + l[i].toNat % 128 * 2 ^ (7 * i)) (by omega) (b4 hge).1 (b4 hge).2
          refine Ev.step (f := fun k => varint_Get.l0 k ((u + l[i].toNat % 128 * 2 ^ (7 * i) : Nat) : Int) l (l.length : Int) ((i + 1 : Nat) : Int)) (fun k => ?_) h1
          simp only [varint_Get.j1]
          rw [if_neg (by decide), ho, h7, if_pos (by omega), if_pos hge, hi1]
        · rw [if_neg hge]
          refine Ev.step (f := fun _ => some (if l[i] = 0 ∧ i > 0 then (0, 0, 5) else (wrap64 ((u + l[i].toNat % 128 * 2 ^ (7 * i) : Nat) : Int), ((i + 1 : Nat) : Int), 0))) (fun k => ?_) ?_
          · simp only [varint_Get.j1]
            rw [if_neg (by decide), ho, h7, if_pos (by omega), if_neg hge, hi1]
            by_cases hz : l[i] = 0
            · rw [if_pos hz]
              by_cases hp : i > 0
              · rw [if_pos (by omega), if_pos ⟨hz, hp⟩]
              · rw [if_neg (by omega), if_neg (fun h => hp h.2)]
            · rw [if_neg hz, if_neg (fun h => hz h.1)]
          · by_cases hz : l[i] = 0 ∧ i > 0
            · rw [if_pos hz, if_pos hz]; exact Ev.now _
            · rw [if_neg hz, if_neg hz]; exact Ev.now _
    refine Ev.step (f := fun k => varint_Get.j1 k (u : Int) (i : Int) l[i] l (l.length : Int) (i : Int) (decide (i = 9 ∧ l[i] > 1))) (fun k => ?_) key
    simp only [varint_Get.l0]
    rw [if_pos (by omega), if_pos (by omega), if_pos (by omega), hr]
    by_cases h9 : i = 9
    · rw [if_pos (by omega)]
      congr 1
      simp [h9]
    · rw [if_neg (by omega)]
      congr 1
      simp [h9]
theorem get_ev (l : List Int) (hl : ∀ x ∈ l, 0 ≤ x ∧ x ≤ 255) (hn : l.length ≤ 140737488355328) : Ev (fun k => varint_Get.f k l) (vget l) :=
  get_l0 l hl hn l.length 0 0 (by omega) (by decide) (by decide)
/-! ### the reference's numbers -/
theorem refget_l0 (l : List Int) (hl : ∀ x ∈ l, 0 ≤ x ∧ x ≤ 255) (hn : l.length ≤ 140737488355328) : ∀ (d i u : Nat), i + d = l.length → i ≤ 9 → u < 2 ^ (7 * i) →
    Ev (fun k => lysimeterref4_Get.l0 k l (u : Int) (i : Int)) (vres (vgetA (l.drop i) i u)) := by
  intro d
  induction d with
  | zero =>
    intro i u hi _ _
    refine Ev.step (f := fun k => lysimeterref4_Get.j1 k l (u : Int) (i : Int) false) (fun k => ?_) (Ev.step (f := fun _ => some (0, 0, 5)) (fun k => ?_) ?_)
    · simp only [lysimeterref4_Get.l0]
      rw [if_neg (by omega)]
    · simp only [lysimeterref4_Get.j1]
      rw [if_neg (by decide)]
    · rw [List.drop_of_length_le (by omega)]
      exact Ev.now _
  | succ d ih =>
    intro i u hi hi9 hu
    have hlt : i < l.length := by omega
    have hm := hl l[i] (List.getElem_mem hlt)
    have hr : rd l (i : Int) = l[i] := by
      unfold rd
      rw [Int.toNat_natCast, List.getD_eq_getElem?_getD, List.getElem?_eq_getElem hlt]; rfl
    have h7 : IntKind.u64.wrap (wrap64 (7 * (i : Int))) = 7 * (i : Int) := by rw [w64 (by omega) (by omega), wu64]; omega
    have hi1 : wrap64 ((i : Int) + 1) = ((i + 1 : Nat) : Int) := by rw [w64 (by omega) (by omega)]; omega
    have hc : IntKind.u64.wrap (Go.bits .and .u8 l[i] 127) = ((l[i].toNat % 128 : Nat) : Int) := by rw [and127_u8 hm.1 hm.2, wu64]; omega
    have key : Ev (fun k => lysimeterref4_Get.j2 k l (u : Int) (i : Int) ((l[i].toNat % 128 : Nat) : Int) (decide (i = 9 ∧ l[i].toNat % 128 > 1))) (vres (vgetA (l.drop i) i u)) := by
      rw [List.drop_eq_getElem_cons hlt]
      simp only [vgetA]
      by_cases h9 : i = 9 ∧ l[i].toNat % 128 > 1
      · rw [decide_eq_true h9, if_pos ⟨h9.1, by omega⟩]
        refine Ev.step (f := fun _ => some (0, 0, 5)) (fun k => ?_) (Ev.now _)
        simp only [lysimeterref4_Get.j2, if_true]
      · rw [decide_eq_false h9]
        by_cases h9' : i = 9 ∧ l[i] > 1
        · -- a byte from 128 on, its seven bits 0 or 1: the next round ends
          rw [if_pos h9']
          have hb : l[i] ≥ 128 := by omega
          have b2 : l[i].toNat % 128 * 2 ^ (7 * i) < 18446744073709551616 := by
            obtain ⟨rfl, _⟩ := h9'
            have hm1 : l[9].toNat % 128 * 2 ^ (7 * 9) ≤ 1 * 2 ^ (7 * 9) := Nat.mul_le_mul_right _ (by omega)
            have hp : (2 : Nat) ^ (7 * 9) = 9223372036854775808 := by decide
            omega
          have b1 : u < 18446744073709551616 := by
            obtain ⟨rfl, _⟩ := h9'
            have hp : (2 : Nat) ^ (7 * 9) = 9223372036854775808 := by decide
            omega
          have ho : Go.bits .or .u64 (u : Int) (shl .u64 ((l[i].toNat % 128 : Nat) : Int) (7 * (i : Int))) = ((u + l[i].toNat % 128 * 2 ^ (7 * i) : Nat) : Int) := by
            rw [shl7 hi9 b2 _ rfl, or_high (7 * i) hu b1 b2]
          refine Ev.step (f := fun k => lysimeterref4_Get.l0 k l ((u + l[i].toNat % 128 * 2 ^ (7 * i) : Nat) : Int) ((i + 1 : Nat) : Int)) (fun k => ?_) ?_
          · simp only [lysimeterref4_Get.j2]
            rw [if_neg (by decide), h7, if_pos (by omega), if_pos (by omega), if_pos (by omega), hr, if_neg (by omega), ho, hi1]
          · refine Ev.step (f := fun k => lysimeterref4_Get.j1 k l ((u + l[i].toNat % 128 * 2 ^ (7 * i) : Nat) : Int) ((i + 1 : Nat) : Int) false) (fun k => ?_) (Ev.step (f := fun _ => some (0, 0, 5)) (fun k => ?_) (Ev.now _))
            · simp only [lysimeterref4_Get.l0]
              by_cases hlt2 : ((i + 1 : Nat) : Int) < (l.length : Int)
              · rw [if_pos hlt2, decide_eq_false (by omega)]
              · rw [if_neg hlt2]
            · simp only [lysimeterref4_Get.j1]
              rw [if_neg (by decide)]
        · rw [if_neg h9']
          obtain ⟨b1, b2, b3, b4⟩ := get_bound hi9 hu hm.1 hm.2 h9'
          have ho : Go.bits .or .u64 (u : Int) (shl .u64 ((l[i].toNat % 128 : Nat) : Int) (7 * (i : Int))) = ((u + l[i].toNat % 128 * 2 ^ (7 * i) : Nat) : Int) := by
            rw [shl7 hi9 b2 _ rfl, or_high (7 * i) hu b1 b2]
          by_cases hge : l[i] ≥ 128
          · rw [if_pos hge]
            have h1 := ih (i + 1) (u + l[i].toNat % 128 * 2 ^ (7 * i)) (by omega) (b4 hge).1 (b4 hge).2
            refine Ev.step (f := fun k => lysimeterref4_Get.l0 k l ((u + l[i].toNat % 128 * 2 ^ (7 * i) : Nat) : Int) ((i + 1 : Nat) : Int)) (fun k => ?_) h1
            simp only [lysimeterref4_Get.j2]
            rw [if_neg (by decide), h7, if_pos (by omega), if_pos (by omega), if_pos (by omega), hr, if_neg (by omega), ho, hi1]
          · rw [if_neg hge]
            refine Ev.step (f := fun _ => some (if l[i] = 0 ∧ i > 0 then (0, 0, 5) else (wrap64 ((u + l[i].toNat % 128 * 2 ^ (7 * i) : Nat) : Int), ((i + 1 : Nat) : Int), 0))) (fun k => ?_) ?_
            · simp only [lysimeterref4_Get.j2]
              rw [if_neg (by decide), h7, if_pos (by omega), if_pos (by omega), if_pos (by omega), hr, if_pos (by omega), ho, hi1]
              by_cases hz : l[i] = 0
              · rw [if_pos (by omega)]
                by_cases hp : i > 0
                · rw [if_pos (by omega), if_pos ⟨hz, hp⟩]
                · rw [if_neg (by omega), if_neg (fun h => hp h.2)]
              · rw [if_neg (by omega), if_neg (fun h => hz h.1)]
            · by_cases hz : l[i] = 0 ∧ i > 0
              · rw [if_pos hz, if_pos hz]; exact Ev.now _
              · rw [if_neg hz, if_neg hz]; exact Ev.now _
    refine Ev.step (f := fun k => lysimeterref4_Get.j1 k l (u : Int) (i : Int) true) (fun k => ?_) (Ev.step (f := fun k => lysimeterref4_Get.j2 k l (u : Int) (i : Int) ((l[i].toNat % 128 : Nat) : Int) (decide (i = 9 ∧ l[i].toNat % 128 > 1))) (fun k => ?_) key)
    · simp only [lysimeterref4_Get.l0]
      rw [if_pos (by omega), decide_eq_true (by omega)]
    · simp only [lysimeterref4_Get.j1]
      rw [if_pos trivial, if_pos (by omega), if_pos (by omega), hr, hc]
      by_cases h9 : i = 9
      · rw [if_pos (by omega)]
        congr 1
        by_cases hx : l[i].toNat % 128 > 1
        · rw [decide_eq_true (by omega), decide_eq_true ⟨h9, hx⟩]
        · rw [decide_eq_false (by omega), decide_eq_false (fun h => hx h.2)]
      · rw [if_neg (by omega)]
        congr 1
        rw [decide_eq_false (fun h => h9 h.1)]
theorem refget_ev (l : List Int) (hl : ∀ x ∈ l, 0 ≤ x ∧ x ≤ 255) (hn : l.length ≤ 140737488355328) : Ev (fun k => lysimeterref4_Get.f k l) (vget l) :=
  refget_l0 l hl hn l.length 0 0 (by omega) (by decide) (by decide)
/-! ### lists in bytes -/
def dl (x m : Int) : Nat := u64N (wrap64 (wrap64 (x - m) - 1))
def pk (m : Int) : List Int → List Int
  | [] => []
  | x :: l => vput (dl x m) ++ pk x l
theorem dl_lt (x m : Int) : dl x m < 18446744073709551616 := u64N_lt _
theorem dl_eq {x m : Int} (h : m < x) (h0 : -1 ≤ m) (h1 : x < 9223372036854775807) : dl x m = (x - m - 1).toNat := by
  unfold dl
  rw [w64 (x := x - m) (by omega) (by omega), w64 (by omega) (by omega)]
  unfold u64N
  omega
theorem dl_one (x : Int) : dl x (-1) = u64N x := by unfold dl u64N wrap64; omega
theorem pk_len (l : List Int) : ∀ m, (pk m l).length ≤ 10 * l.length := by
  induction l with
  | nil => intro m; simp [pk]
  | cons x l ih =>
    intro m
    have h1 := ih x
    have h2 := vput_len10 (dl_lt x m)
    simp only [pk, List.length_append, List.length_cons]
    omega
theorem pk_range (l : List Int) : ∀ m, ∀ x ∈ pk m l, 0 ≤ x ∧ x ≤ 255 := by
  induction l with
  | nil => intro m x hx; simp [pk] at hx
  | cons y l ih =>
    intro m x hx
    simp only [pk, List.mem_append] at hx
    rcases hx with hx | hx
    · exact vput_range _ _ (Nat.le_refl _) x hx
    · exact ih y x hx
theorem pack_l0 (l : List Int) (hn : l.length ≤ 140737488355328) : ∀ (d i : Nat) (m : Int) (acc : List Int), i + d = l.length → acc.length + 10 * d < 140737488355328 →
    Ev (fun k => postings_Pack.l0 k acc m l (l.length : Int) (i : Int)) (acc ++ pk m (l.drop i), 0) := by
  intro d
  induction d with
  | zero =>
    intro i m acc hi _
    rw [List.drop_of_length_le (by omega), pk, List.append_nil]
    refine Ev.step (f := fun _ => some (acc, 0)) (fun k => ?_) (Ev.now _)
    simp only [postings_Pack.l0]
    rw [if_neg (by omega)]
  | succ d ih =>
    intro i m acc hi hl
    have hlt : i < l.length := by omega
    have hv := vput_len10 (dl_lt l[i] m)
    rw [List.drop_eq_getElem_cons hlt, pk, ← List.append_assoc]
    refine Ev.step (f := fun k => (varint_Put.f k (wrap64 (wrap64 (l[i] - m) - 1))).bind fun t => if acc.length + t.length < 140737488355328 then postings_Pack.l0 k (acc ++ t) l[i] l (l.length : Int) ((i + 1 : Nat) : Int) else none) (fun k => ?_)
      (Ev.bind (put_ev _) (ev_if_pos (show acc.length + (vput (dl l[i] m)).length < 140737488355328 from by omega) (ih (i + 1) l[i] (acc ++ vput (dl l[i] m)) (by omega) (by rw [List.length_append]; omega))))
    simp only [postings_Pack.l0]
    rw [if_pos (by omega), if_pos (by omega), if_pos (by omega), rd_nat hlt, wi1 hlt hn]
def packV (l : List Int) : List Int × Int := if l.length > 10000 then ([], 2) else if ris (-1) l = true then (vput l.length ++ pk (-1) l, 0) else ([], 1)
theorem u64N_nat {n : Nat} (h : n ≤ 140737488355328) : u64N (n : Int) = n := by unfold u64N; omega
theorem pack_ev {l : List Int} (hn : l.length ≤ 140737488355328) : Ev (fun k => postings_Pack.f k l) (packV l) := by
  unfold postings_Pack.f packV
  by_cases h : l.length > 10000
  · rw [if_pos h]
    exact ev_if_pos (by omega) (Ev.now _)
  · rw [if_neg h]
    refine ev_if_neg (by omega) (Ev.bind (check_ev hn) ?_)
    have hv := vput_len10 (u64N_lt (l.length : Int))
    by_cases h1 : ris (-1) l = true
    · rw [if_pos h1]
      have h2 := put_ev (l.length : Int)
      rw [u64N_nat hn] at h2 hv
      exact ev_if_pos h1 (Ev.bind h2 (pack_l0 l hn l.length 0 (-1) (vput l.length) (by omega) (by omega)))
    · rw [if_neg h1]
      exact ev_if_neg h1 (Ev.now _)
/-! ### lists out of bytes -/
theorem vgetA_canon (l : List Int) (hl : ∀ x ∈ l, 0 ≤ x ∧ x ≤ 255) : ∀ (i u v m : Nat), i ≤ 9 → vgetA l i u = some (v, m) →
    ∃ c, v = u + c * 2 ^ (7 * i) ∧ m = i + (vput c).length ∧ l.take (m - i) = vput c ∧ (0 < i → 0 < c) ∧ c < 2 ^ (64 - 7 * i) := by
  induction l with
  | nil => intro i u v m _ h; simp [vgetA] at h
  | cons x l ih =>
    intro i u v m hi h
    have hx := hl x List.mem_cons_self
    simp only [vgetA] at h
    by_cases h9 : i = 9 ∧ x > 1
    · rw [if_pos h9] at h; cases h
    · rw [if_neg h9] at h
      by_cases hge : x ≥ 128
      · rw [if_pos hge] at h
        have h8 : i ≤ 8 := by
          rcases Nat.lt_or_ge i 9 with q | q
          · omega
          · exact absurd ⟨by omega, by omega⟩ h9
        obtain ⟨c, hv, hm, ht, hp, hb⟩ := ih (fun y hy => hl y (List.mem_cons_of_mem _ hy)) (i + 1) _ v m (by omega) h
        have hc := hp (by omega)
        have hp7 := pow7 h8
        refine ⟨x.toNat % 128 + 128 * c, ?_, ?_, ?_, fun _ => by omega, ?_⟩
        · rw [hv, hp7.1, Nat.add_mul, Nat.mul_left_comm c 128, ← Nat.mul_assoc 128 c, Nat.add_assoc]
        · rw [vput_big (by omega), List.length_cons, show (x.toNat % 128 + 128 * c) / 128 = c from by omega]
          omega
        · rw [vput_big (by omega), show (x.toNat % 128 + 128 * c) / 128 = c from by omega, show m - i = (m - (i + 1)) + 1 from by omega, List.take_succ_cons, ht]
          congr 1
          omega
        · have e : (2 : Nat) ^ (64 - 7 * i) = 128 * 2 ^ (64 - 7 * (i + 1)) := by
            rw [show 64 - 7 * i = (64 - 7 * (i + 1)) + 7 from by omega, Nat.pow_add]
            omega
          rw [e]
          omega
      · rw [if_neg hge] at h
        by_cases hz : x = 0 ∧ i > 0
        · rw [if_pos hz] at h; cases h
        · rw [if_neg hz] at h
          obtain ⟨rfl, rfl⟩ := Prod.mk.inj (Option.some.inj h)
          refine ⟨x.toNat, ?_, ?_, ?_, fun hi0 => ?_, ?_⟩
          · rw [show x.toNat % 128 = x.toNat from by omega]
          · rw [vput_small (by omega)]; simp
          · rw [vput_small (by omega), show i + 1 - i = 0 + 1 from by omega, List.take_succ_cons, List.take_zero]
            congr 1
            omega
          · rcases Int.lt_or_le 0 x with q | q
            · omega
            · exact absurd ⟨by omega, hi0⟩ hz
          · rcases Nat.lt_or_ge i 9 with q | q
            · have : (2 : Nat) ^ 8 ≤ 2 ^ (64 - 7 * i) := Nat.pow_le_pow_right (by decide) (by omega)
              omega
            · obtain rfl : i = 9 := by omega
              have : ¬ x > 1 := fun e => h9 ⟨rfl, e⟩
              have h2 : (2 : Nat) ^ (64 - 7 * 9) = 2 := by decide
              omega
theorem vget_canon {l : List Int} (hl : ∀ x ∈ l, 0 ≤ x ∧ x ≤ 255) {v m : Nat} (h : vgetA l 0 0 = some (v, m)) : m = (vput v).length ∧ l.take m = vput v ∧ m ≤ l.length ∧ v < 18446744073709551616 := by
  obtain ⟨c, hv, hm, ht, _, hb⟩ := vgetA_canon l hl 0 0 v m (by decide) h
  obtain rfl : v = c := by simp at hv; exact hv
  have hm' : m = (vput v).length := by omega
  have ht' : l.take m = vput v := by simpa using ht
  have hlen := congrArg List.length ht'
  rw [List.length_take, ← hm'] at hlen
  refine ⟨hm', ht', by omega, ?_⟩
  have e : (2 : Nat) ^ (64 - 7 * 0) = 18446744073709551616 := by decide
  rw [← e]; exact hb
def rdl : Nat → List Int → Nat → List Int → Int → Option (List Int × Nat)
  | 0, _, at_, acc, _ => some (acc, at_)
  | n + 1, b, at_, acc, last =>
    match vgetA (b.drop at_) 0 0 with
    | none => none
    | some (v, m) => if wrap64 (v : Int) < 0 ∨ wrap64 (v : Int) ≥ 1099511627776 then none else rdl n b (at_ + m) (acc ++ [last + (v : Int) + 1]) (last + (v : Int) + 1)
def unp : Option (List Int × Nat) → List Int × Int × Int
  | none => ([], 0, 5)
  | some (acc, at_) => if ris (-1) acc = true then (acc, (at_ : Int), 0) else ([], 0, 5)
def unpV (b : List Int) : List Int × Int × Int :=
  match vgetA b 0 0 with
  | none => ([], 0, 5)
  | some (v, m) => if wrap64 (v : Int) < 0 ∨ wrap64 (v : Int) > 10000 then ([], 0, 5) else unp (rdl v b m [] (-1))
def lst (m : Int) : List Int → Int
  | [] => m
  | x :: l => lst x l
theorem lst_snoc (acc : List Int) (x : Int) : ∀ m, lst m (acc ++ [x]) = x := by
  induction acc with
  | nil => intro m; rfl
  | cons y acc ih => intro m; exact ih y
theorem pk_snoc (acc : List Int) (x : Int) : ∀ m, pk m (acc ++ [x]) = pk m acc ++ vput (dl x (lst m acc)) := by
  induction acc with
  | nil => intro m; simp [pk, lst]
  | cons y acc ih => intro m; simp only [List.cons_append, pk, lst, ih, List.append_assoc]
theorem wrap_small {v : Nat} (hv : v < 18446744073709551616) (h0 : ¬ wrap64 (v : Int) < 0) : wrap64 (v : Int) = (v : Int) := by
  unfold wrap64 at h0 ⊢
  omega
theorem bytes_drop {b : List Int} {n : Nat} (hb : ∀ x ∈ b, 0 ≤ x ∧ x ≤ 255) : ∀ x ∈ b.drop n, 0 ≤ x ∧ x ≤ 255 := fun x hx => hb x (List.mem_of_mem_drop hx)
theorem step_bits {b acc : List Int} {at_ v m : Nat} {last : Int} {n : Nat} (hb : ∀ x ∈ b, 0 ≤ x ∧ x ≤ 255) (hat : at_ ≤ b.length) (htk : b.take at_ = vput n ++ pk (-1) acc) (hls : last = lst (-1) acc) (hl0 : -1 ≤ last) (hl1 : last < 1152921504606846976)
    (hV : vgetA (b.drop at_) 0 0 = some (v, m)) (hv : v < 1099511627776) :
    at_ + m ≤ b.length ∧ b.take (at_ + m) = vput n ++ pk (-1) (acc ++ [last + (v : Int) + 1]) ∧ last + (v : Int) + 1 = lst (-1) (acc ++ [last + (v : Int) + 1]) := by
  obtain ⟨c1, c2, c3, _⟩ := vget_canon (bytes_drop hb) hV
  rw [List.length_drop] at c3
  refine ⟨by omega, ?_, (lst_snoc _ _ _).symm⟩
  rw [List.take_add, htk, c2, pk_snoc, ← hls, dl_eq (by omega) hl0 (by omega), List.append_assoc]
  congr 3
  omega
theorem unpack_l0 (b : List Int) (hb : ∀ x ∈ b, 0 ≤ x ∧ x ≤ 255) (hn : b.length ≤ 140737488355328) (n : Nat) (hn2 : n ≤ 10000) : ∀ (d i at_ : Nat) (acc : List Int) (last : Int), i + d = n → acc.length = i → at_ ≤ b.length →
    b.take at_ = vput n ++ pk (-1) acc → last = lst (-1) acc → -1 ≤ last → last ≤ (i : Int) * 1099511627776 →
    Ev (fun k => postings_Unpack.l0 k b (at_ : Int) acc last (n : Int) (i : Int)) (unp (rdl d b at_ acc last)) := by
  intro d
  induction d with
  | zero =>
    intro i at_ acc last hi hacc hat htk hls hl0 hl1
    have hp := pack_ev (l := acc) (by omega)
    unfold packV at hp
    rw [if_neg (by omega)] at hp
    refine Ev.step (f := fun k => (postings_Pack.f k acc).bind fun bt => (if bt.2 = 0 then ((bytes_HasPrefix.f b bt.1).bind fun t => (if t = true then (some (acc, (bt.1.length : Int), 0)) else (some (([] : List Int), 0, 5)))) else (some (([] : List Int), 0, 5)))) (fun k => ?_) ?_
    · simp only [postings_Unpack.l0]
      rw [if_neg (by omega)]
    · simp only [rdl, unp]
      by_cases h1 : ris (-1) acc = true
      · rw [if_pos h1] at hp ⊢
        refine Ev.bind hp (ev_if_pos rfl ?_)
        have hpk : vput acc.length ++ pk (-1) acc = b.take at_ := by rw [htk, show acc.length = n from by omega]
        have hlen : (vput acc.length ++ pk (-1) acc).length = at_ := by rw [hpk, List.length_take]; omega
        have hpre : bytes_HasPrefix.f b (vput acc.length ++ pk (-1) acc) = some true := by
          unfold bytes_HasPrefix.f bytes_Equal.f
          rw [hlen, if_pos (by omega), if_pos (by omega), if_pos (by omega), Int.toNat_natCast, hpk]
          simp
        refine ev_one_bind hpre (ev_if_pos rfl (ev_eq (Ev.now _) ?_))
        rw [hlen]
      · rw [if_neg h1] at hp ⊢
        exact Ev.bind hp (ev_if_neg (by decide) (Ev.now _))
  | succ d ih =>
    intro i at_ acc last hi hacc hat htk hls hl0 hl1
    have hl2 : last < 1152921504606846976 := by clear htk hls ih; omega
    have hg := get_ev (b.drop at_) (bytes_drop hb) (by rw [List.length_drop]; omega)
    unfold vget at hg
    refine Ev.step (f := fun k => (varint_Get.f k (b.drop at_)).bind fun bt => (if bt.2.2 = 0 then (if bt.1 < 0 then (some (([] : List Int), 0, 5)) else (if bt.1 ≥ 1099511627776 then (some (([] : List Int), 0, 5)) else (if acc.length < 17592186044416 then (postings_Unpack.l0 k b (wrap64 ((at_ : Int) + bt.2.1)) (acc ++ [wrap64 (last + (wrap64 (bt.1 + 1)))]) (wrap64 (last + (wrap64 (bt.1 + 1)))) (n : Int) ((i + 1 : Nat) : Int)) else (none)))) else (some (([] : List Int), 0, 5)))) (fun k => ?_) ?_
    · simp only [postings_Unpack.l0]
      rw [if_pos (by omega), if_pos (by omega), if_pos (by omega), Int.toNat_natCast, wi1 (n := n) (by omega) (by omega)]
    · simp only [rdl]
      cases hV : vgetA (b.drop at_) 0 0 with
      | none =>
        rw [hV] at hg
        exact Ev.bind hg (ev_if_neg (by decide) (Ev.now _))
      | some p =>
        obtain ⟨v, m⟩ := p
        rw [hV] at hg
        obtain ⟨-, -, -, hv64⟩ := vget_canon (bytes_drop hb) hV
        refine Ev.bind hg (ev_if_pos rfl ?_)
        show Ev (fun k => if wrap64 (v : Int) < 0 then _ else if wrap64 (v : Int) ≥ 1099511627776 then _ else _) _
        by_cases c0 : wrap64 (v : Int) < 0
        · simp only [if_pos (Or.inl c0 : wrap64 (v : Int) < 0 ∨ wrap64 (v : Int) ≥ 1099511627776)]
          exact ev_if_pos c0 (Ev.now _)
        · refine ev_if_neg c0 ?_
          have ew := wrap_small hv64 c0
          by_cases c1 : wrap64 (v : Int) ≥ 1099511627776
          · simp only [if_pos (Or.inr c1 : wrap64 (v : Int) < 0 ∨ wrap64 (v : Int) ≥ 1099511627776)]
            exact ev_if_pos c1 (Ev.now _)
          · simp only [if_neg (show ¬ (wrap64 (v : Int) < 0 ∨ wrap64 (v : Int) ≥ 1099511627776) from fun e => e.elim c0 c1)]
            refine ev_if_neg c1 (ev_if_pos (by omega) ?_)
            rw [ew] at c1
            obtain ⟨s1, s2, s3⟩ := step_bits hb hat htk hls hl0 hl2 hV (by clear htk hls hg hV; omega)
            clear htk hls hV hg
            have h1 := ih (i + 1) (at_ + m) (acc ++ [last + (v : Int) + 1]) (last + (v : Int) + 1) (by omega) (by simp [hacc]) s1 s2 s3 (by omega) (by omega)
            have e1 : wrap64 ((at_ : Int) + (m : Int)) = ((at_ + m : Nat) : Int) := by rw [w64 (by omega) (by omega)]; omega
            have e2 : wrap64 (last + wrap64 (wrap64 (v : Int) + 1)) = last + (v : Int) + 1 := by rw [ew, w64 (x := (v : Int) + 1) (by omega) (by omega), w64 (by omega) (by omega)]; omega
            show Ev (fun k => postings_Unpack.l0 k b (wrap64 ((at_ : Int) + (m : Int))) (acc ++ [wrap64 (last + wrap64 (wrap64 (v : Int) + 1))]) (wrap64 (last + wrap64 (wrap64 (v : Int) + 1))) (n : Int) ((i + 1 : Nat) : Int)) _
            rw [e1, e2]
            exact h1
theorem unpack_j0 {b : List Int} {n at_ : Int} (c : Bool) {r : List Int × Int × Int} (h : c = false → Ev (fun k => postings_Unpack.l0 k b at_ [] (-1) n 0) r) : Ev (fun k => postings_Unpack.j0 k b n at_ c) (if c = true then ([], 0, 5) else r) := by
  cases c
  · refine Ev.step (f := fun k => postings_Unpack.l0 k b at_ [] (-1) n 0) (fun k => ?_) (h rfl)
    simp only [postings_Unpack.j0]
    rw [if_neg (by decide)]
  · refine Ev.step (f := fun _ => some ([], 0, 5)) (fun k => ?_) (Ev.now _)
    simp only [postings_Unpack.j0]
    rw [if_pos (by trivial)]
theorem unpack_ev {b : List Int} (hb : ∀ x ∈ b, 0 ≤ x ∧ x ≤ 255) (hn : b.length ≤ 140737488355328) : Ev (fun k => postings_Unpack.f k b) (unpV b) := by
  unfold postings_Unpack.f unpV
  have hg := get_ev b hb hn
  unfold vget at hg
  cases hV : vgetA b 0 0 with
  | none =>
    rw [hV] at hg
    exact Ev.bind hg (ev_if_neg (by decide) (unpack_j0 (r := ([], 0, 5)) true (fun h => by cases h)))
  | some p =>
    obtain ⟨v, m⟩ := p
    rw [hV] at hg
    obtain ⟨k1, k2, k3, hv64⟩ := vget_canon hb hV
    refine Ev.bind hg (ev_if_pos rfl ?_)
    show Ev (fun k => if wrap64 (v : Int) < 0 then postings_Unpack.j0 k b (wrap64 (v : Int)) (m : Int) true else postings_Unpack.j0 k b (wrap64 (v : Int)) (m : Int) (decide (wrap64 (v : Int) > 10000))) _
    by_cases c0 : wrap64 (v : Int) < 0
    · simp only [if_pos (Or.inl c0 : wrap64 (v : Int) < 0 ∨ wrap64 (v : Int) > 10000)]
      exact ev_if_pos c0 (unpack_j0 (r := ([], 0, 5)) true (fun h => by cases h))
    · refine ev_if_neg c0 ?_
      have ew := wrap_small hv64 c0
      by_cases c1 : wrap64 (v : Int) > 10000
      · simp only [if_pos (Or.inr c1 : wrap64 (v : Int) < 0 ∨ wrap64 (v : Int) > 10000)]
        rw [decide_eq_true c1]
        exact unpack_j0 (r := ([], 0, 5)) true (fun h => by cases h)
      · simp only [if_neg (show ¬ (wrap64 (v : Int) < 0 ∨ wrap64 (v : Int) > 10000) from fun e => e.elim c0 c1)]
        rw [decide_eq_false c1, ew]
        refine unpack_j0 (r := unp (rdl v b m [] (-1))) false (fun _ => ?_)
        rw [ew] at c1
        exact unpack_l0 b hb hn v (by omega) v 0 m [] (-1) (by omega) rfl k3 (by rw [k2, pk, List.append_nil]) rfl (by omega) (by omega)
theorem refread_l0 (b : List Int) (hb : ∀ x ∈ b, 0 ≤ x ∧ x ≤ 255) (hn : b.length ≤ 140737488355328) (n : Nat) (hn2 : n ≤ 10000) : ∀ (d i at_ : Nat) (acc : List Int) (last : Int), i + d = n → acc.length = i → at_ ≤ b.length →
    -1 ≤ last → last ≤ (i : Int) * 1099511627776 →
    Ev (fun k => lysimeterref11_ReadList.l0 k b (n : Int) (at_ : Int) acc last (i : Int)) (unp (rdl d b at_ acc last)) := by
  intro d
  induction d with
  | zero =>
    intro i at_ acc last hi hacc hat hl0 hl1
    refine Ev.step (f := fun k => (lysimeterref11_Rising.f k acc).bind fun t => (if t = true then (some (acc, (at_ : Int), 0)) else (some (([] : List Int), 0, 5)))) (fun k => ?_) ?_
    · simp only [lysimeterref11_ReadList.l0]
      rw [if_neg (by omega)]
    · simp only [rdl, unp]
      refine Ev.bind (refris_ev (l := acc) (by omega)) ?_
      by_cases h1 : ris (-1) acc = true
      · exact ev_if_pos h1 (ev_eq (Ev.now _) (if_pos h1).symm)
      · exact ev_if_neg h1 (ev_eq (Ev.now _) (if_neg h1).symm)
  | succ d ih =>
    intro i at_ acc last hi hacc hat hl0 hl1
    have hl2 : last < 1152921504606846976 := by clear ih; omega
    have hg := refget_ev (b.drop at_) (bytes_drop hb) (by rw [List.length_drop]; omega)
    unfold vget at hg
    refine Ev.step (f := fun k => (lysimeterref4_Get.f k (b.drop at_)).bind fun bt => (if bt.2.2 = 0 then (if bt.1 < 0 then (some (([] : List Int), 0, 5)) else (if bt.1 ≥ 1099511627776 then (some (([] : List Int), 0, 5)) else (if acc.length < 17592186044416 then (lysimeterref11_ReadList.l0 k b (n : Int) (wrap64 ((at_ : Int) + bt.2.1)) (acc ++ [wrap64 ((wrap64 (last + bt.1)) + 1)]) (wrap64 ((wrap64 (last + bt.1)) + 1)) ((i + 1 : Nat) : Int)) else (none)))) else (some (([] : List Int), 0, 5)))) (fun k => ?_) ?_
    · simp only [lysimeterref11_ReadList.l0]
      rw [if_pos (by omega), if_pos (by omega), if_pos (by omega), Int.toNat_natCast, wi1 (n := n) (by omega) (by omega)]
    · simp only [rdl]
      cases hV : vgetA (b.drop at_) 0 0 with
      | none =>
        rw [hV] at hg
        exact Ev.bind hg (ev_if_neg (by decide) (Ev.now _))
      | some p =>
        obtain ⟨v, m⟩ := p
        rw [hV] at hg
        obtain ⟨-, -, k3, hv64⟩ := vget_canon (bytes_drop hb) hV
        rw [List.length_drop] at k3
        have hle : at_ + m ≤ b.length := by clear hV hg ih hv64; omega
        clear k3
        refine Ev.bind hg (ev_if_pos rfl ?_)
        show Ev (fun k => if wrap64 (v : Int) < 0 then _ else if wrap64 (v : Int) ≥ 1099511627776 then _ else _) _
        by_cases c0 : wrap64 (v : Int) < 0
        · simp only [if_pos (Or.inl c0 : wrap64 (v : Int) < 0 ∨ wrap64 (v : Int) ≥ 1099511627776)]
          exact ev_if_pos c0 (Ev.now _)
        · refine ev_if_neg c0 ?_
          have ew := wrap_small hv64 c0
          by_cases c1 : wrap64 (v : Int) ≥ 1099511627776
          · simp only [if_pos (Or.inr c1 : wrap64 (v : Int) < 0 ∨ wrap64 (v : Int) ≥ 1099511627776)]
            exact ev_if_pos c1 (Ev.now _)
          · simp only [if_neg (show ¬ (wrap64 (v : Int) < 0 ∨ wrap64 (v : Int) ≥ 1099511627776) from fun e => e.elim c0 c1)]
            refine ev_if_neg c1 (ev_if_pos (by omega) ?_)
            rw [ew] at c1
            clear hg hV
            have h1 := ih (i + 1) (at_ + m) (acc ++ [last + (v : Int) + 1]) (last + (v : Int) + 1) (by omega) (by simp [hacc]) hle (by omega) (by omega)
            have e1 : wrap64 ((at_ : Int) + (m : Int)) = ((at_ + m : Nat) : Int) := by rw [w64 (by omega) (by omega)]; omega
            have e2 : wrap64 (wrap64 (last + wrap64 (v : Int)) + 1) = last + (v : Int) + 1 := by rw [ew, w64 (x := last + (v : Int)) (by omega) (by omega), w64 (by omega) (by omega)]
            show Ev (fun k => lysimeterref11_ReadList.l0 k b (n : Int) (wrap64 ((at_ : Int) + (m : Int))) (acc ++ [wrap64 (wrap64 (last + wrap64 (v : Int)) + 1)]) (wrap64 (wrap64 (last + wrap64 (v : Int)) + 1)) ((i + 1 : Nat) : Int)) _
            rw [e1, e2]
            exact h1
theorem refread_j0 {b : List Int} {n at_ : Int} (c : Bool) {r : List Int × Int × Int} (h : c = false → Ev (fun k => lysimeterref11_ReadList.l0 k b n at_ [] (-1) 0) r) : Ev (fun k => lysimeterref11_ReadList.j0 k b n at_ c) (if c = true then ([], 0, 5) else r) := by
  cases c
  · refine Ev.step (f := fun k => lysimeterref11_ReadList.l0 k b n at_ [] (-1) 0) (fun k => ?_) (h rfl)
    simp only [lysimeterref11_ReadList.j0]
    rw [if_neg (by decide)]
  · refine Ev.step (f := fun _ => some ([], 0, 5)) (fun k => ?_) (Ev.now _)
    simp only [lysimeterref11_ReadList.j0]
    rw [if_pos (by trivial)]
theorem refread_ev {b : List Int} (hb : ∀ x ∈ b, 0 ≤ x ∧ x ≤ 255) (hn : b.length ≤ 140737488355328) : Ev (fun k => lysimeterref11_ReadList.f k b) (unpV b) := by
  unfold lysimeterref11_ReadList.f unpV
  have hg := refget_ev b hb hn
  unfold vget at hg
  cases hV : vgetA b 0 0 with
  | none =>
    rw [hV] at hg
    exact Ev.bind hg (ev_if_neg (by decide) (refread_j0 (r := ([], 0, 5)) true (fun h => by cases h)))
  | some p =>
    obtain ⟨v, m⟩ := p
    rw [hV] at hg
    obtain ⟨k1, k2, k3, hv64⟩ := vget_canon hb hV
    refine Ev.bind hg (ev_if_pos rfl ?_)
    show Ev (fun k => if wrap64 (v : Int) < 0 then lysimeterref11_ReadList.j0 k b (wrap64 (v : Int)) (m : Int) true else lysimeterref11_ReadList.j0 k b (wrap64 (v : Int)) (m : Int) (decide (wrap64 (v : Int) > 10000))) _
    by_cases c0 : wrap64 (v : Int) < 0
    · simp only [if_pos (Or.inl c0 : wrap64 (v : Int) < 0 ∨ wrap64 (v : Int) > 10000)]
      exact ev_if_pos c0 (refread_j0 (r := ([], 0, 5)) true (fun h => by cases h))
    · refine ev_if_neg c0 ?_
      have ew := wrap_small hv64 c0
      by_cases c1 : wrap64 (v : Int) > 10000
      · simp only [if_pos (Or.inr c1 : wrap64 (v : Int) < 0 ∨ wrap64 (v : Int) > 10000)]
        rw [decide_eq_true c1]
        exact refread_j0 (r := ([], 0, 5)) true (fun h => by cases h)
      · simp only [if_neg (show ¬ (wrap64 (v : Int) < 0 ∨ wrap64 (v : Int) > 10000) from fun e => e.elim c0 c1)]
        rw [decide_eq_false c1, ew]
        refine refread_j0 (r := unp (rdl v b m [] (-1))) false (fun _ => ?_)
        rw [ew] at c1
        exact refread_l0 b hb hn v (by omega) v 0 m [] (-1) (by omega) rfl k3 (by omega) (by omega)
theorem alive14_ev : Ev (fun k => lysimeterlaw14_alive.f k) true := Ev.of lysimeterlaw14_alive.mono (k := 40) (by decide +kernel)
theorem rdl_len : ∀ (d at_ : Nat) (b acc : List Int) (last : Int) (r : List Int × Nat), rdl d b at_ acc last = some r → r.1.length ≤ acc.length + d := by
  intro d
  induction d with
  | zero => intro at_ b acc last r h; simp only [rdl, Option.some.injEq] at h; subst h; exact Nat.le_refl _
  | succ d ih =>
    intro at_ b acc last r h
    simp only [rdl] at h
    split at h
    · cases h
    · split at h
      · cases h
      · have h2 := ih _ _ _ _ _ h
        simp only [List.length_append, List.length_cons, List.length_nil] at h2
        omega
theorem unp_len (o : Option (List Int × Nat)) (n : Nat) (h : ∀ r, o = some r → r.1.length ≤ n) : (unp o).1.length ≤ n := by
  cases o with
  | none => exact Nat.zero_le _
  | some r =>
    obtain ⟨acc, at_⟩ := r
    have h1 := h _ rfl
    simp only [unp]
    split
    · exact h1
    · exact Nat.zero_le _
theorem unpV_len {b : List Int} (hb : ∀ x ∈ b, 0 ≤ x ∧ x ≤ 255) : (unpV b).1.length ≤ 140737488355328 := by
  unfold unpV
  cases hV : vgetA b 0 0 with
  | none => exact Nat.zero_le _
  | some p =>
    obtain ⟨v, m⟩ := p
    have hv64 : v < 18446744073709551616 := (vget_canon hb hV).2.2.2
    clear hV
    simp only
    by_cases hc : wrap64 (v : Int) < 0 ∨ wrap64 (v : Int) > 10000
    · rw [if_pos hc]; exact Nat.zero_le _
    · rw [if_neg hc]
      have ew := wrap_small hv64 (fun e => hc (.inl e))
      rw [ew] at hc
      refine unp_len _ _ (fun r hr => ?_)
      have h1 := rdl_len _ _ _ _ _ _ hr
      simp only [List.length_nil] at h1
      omega
theorem PostingsRead : lysimeterlaw14_PostingsRead.Pure := by
  intro b _ hb8 hw
  have hb : ∀ x ∈ b, 0 ≤ x ∧ x ≤ 255 := fun x hx => wf_u8 (hw x hx)
  refine Ev.rounds (g := fun k => lysimeterlaw14_PostingsRead.f k b) ?_
  unfold lysimeterlaw14_PostingsRead.f
  refine Ev.bind alive14_ev (ev_if_pos rfl ?_)
  by_cases c1 : (b.length : Int) > 5000
  · rw [decide_eq_true c1]
    refine Ev.step (f := fun _ => some true) (fun k => ?_) (Ev.now _)
    simp only [lysimeterlaw14_PostingsRead.j0]
    rw [if_pos (by trivial)]
  · rw [decide_eq_false c1]
    refine Ev.step (fun k => lysimeterlaw14_PostingsRead.j0.eq_2 b true false k) (ev_if_neg (by decide) (ev_if_pos (by simp only [List.length_nil]; omega) ?_))
    simp only [List.nil_append]
    refine Ev.bind (unpack_ev hb (by omega)) (Ev.bind (refread_ev hb (by omega)) ?_)
    exact ev_one_bind rfl (ev_if_pos rfl (ev_if_pos rfl (Ev.bind (same_self (unpV_len hb)) (Ev.now _))))

end Go.Proofs.Ytjilnpbgclnecab.Pure
