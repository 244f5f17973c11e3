/- slices.SortStableFunc after its Go text, as functions over an array and a 'less' (blocks of twenty sorted by insertion, symMerge by rotations), and that it sorts stably: elements bear tags, ties go by tag. Plain lists and arrays: no program in sight. -/
import Derived.Sort.LotA
set_option linter.unusedVariables false
set_option linter.unusedSimpArgs false
set_option linter.unusedSectionVars false
namespace Go.Proofs.Ytcgocdhffcnleaa.XSt
open Go.Sort
variable {α : Type} [Inhabited α]

/-! ### the functions -/
def swapRange : Nat → Nat → Nat → Array α → Array α
  | _, _, 0, d => d
  | a, b, n + 1, d => swapRange (a + 1) (b + 1) n (swp d a b)
def rot (m : Nat) : Nat → Nat → Nat → Array α → Array α
  | 0, _, _, d => d
  | k + 1, i, j, d => if i = j then swapRange (m - i) m i d else if j < i then rot m k (i - j) j (swapRange (m - i) m j d) else rot m k i (j - i) (swapRange (m - i) (m + j - i) i d)
def bsearch (p : Nat → Bool) : Nat → Nat → Nat → Nat
  | 0, i, _ => i
  | k + 1, i, j => if i < j then (if p ((i + j) / 2) = true then bsearch p k ((i + j) / 2 + 1) j else bsearch p k i ((i + j) / 2)) else i
def shUp : Nat → Nat → Array α → Array α
  | 0, _, d => d
  | n + 1, k, d => shUp n (k + 1) (swp d k (k + 1))
def shDn : Nat → Nat → Array α → Array α
  | 0, _, d => d
  | n + 1, k, d => shDn n (k - 1) (swp d k (k - 1))
def smStart (a m b : Nat) : Nat := if (a + b) / 2 < m then (a + b) / 2 + m - b else a
def smR (a m b : Nat) : Nat := if (a + b) / 2 < m then (a + b) / 2 else m
def smS (lt : α → α → Bool) (a m b : Nat) (d : Array α) : Nat :=
  bsearch (fun c => !lt d[(a + b) / 2 + m - 1 - c]! d[c]!) (smR a m b - smStart a m b) (smStart a m b) (smR a m b)
def symMerge (lt : α → α → Bool) : Nat → Nat → Nat → Nat → Array α → Array α
  | 0, _, _, _, d => d
  | f + 1, a, m, b, d =>
    if m - a = 1 then shUp (bsearch (fun h => lt d[h]! d[a]!) (b - m) m b - 1 - a) a d
    else if b - m = 1 then shDn (m - bsearch (fun h => !lt d[m]! d[h]!) (m - a) a m) m d
    else
      let mid := (a + b) / 2
      let s := smS lt a m b d
      let e := mid + m - s
      let d1 := if s < m ∧ m < e then rot m (m - s + (e - m)) (m - s) (e - m) d else d
      let d2 := if a < s ∧ s < mid then symMerge lt f a s mid d1 else d1
      if mid < e ∧ e < b then symMerge lt f mid e b d2 else d2
def blocks (lt : α → α → Bool) (n : Nat) : Nat → Nat → Array α → Array α
  | 0, a, d => insertionSort lt d a n
  | k + 1, a, d => if a + 20 ≤ n then blocks lt n k (a + 20) (insertionSort lt d a (a + 20)) else insertionSort lt d a n
def pass (lt : α → α → Bool) (n bs : Nat) : Nat → Nat → Array α → Array α
  | 0, _, d => d
  | k + 1, a, d => if a + 2 * bs ≤ n then pass lt n bs k (a + 2 * bs) (symMerge lt n a (a + bs) (a + 2 * bs) d) else if a + bs < n then symMerge lt n a (a + bs) n d else d
def merges (lt : α → α → Bool) (n : Nat) : Nat → Nat → Array α → Array α
  | 0, _, d => d
  | k + 1, bs, d => if bs < n then merges lt n k (bs * 2) (pass lt n bs (n + 1) 0 d) else d
def stable (lt : α → α → Bool) (d : Array α) : Array α := merges lt d.size d.size 20 (blocks lt d.size d.size 0 d)

/-! ### sizes -/
theorem size_swapRange : ∀ (n a b : Nat) (d : Array α), (swapRange a b n d).size = d.size
  | 0, _, _, _ => rfl
  | n + 1, a, b, d => (size_swapRange n _ _ _).trans (size_swp d a b)
theorem size_rot (m : Nat) : ∀ (k i j : Nat) (d : Array α), (rot m k i j d).size = d.size
  | 0, _, _, _ => rfl
  | k + 1, i, j, d => by
    unfold rot
    split
    · exact size_swapRange _ _ _ _
    · split
      · exact (size_rot m k _ _ _).trans (size_swapRange _ _ _ _)
      · exact (size_rot m k _ _ _).trans (size_swapRange _ _ _ _)
theorem size_shUp : ∀ (n k : Nat) (d : Array α), (shUp n k d).size = d.size
  | 0, _, _ => rfl
  | n + 1, k, d => (size_shUp n _ _).trans (size_swp d _ _)
theorem size_shDn : ∀ (n k : Nat) (d : Array α), (shDn n k d).size = d.size
  | 0, _, _ => rfl
  | n + 1, k, d => (size_shDn n _ _).trans (size_swp d _ _)

/-! ### lists -/
theorem at_app (P S : List α) (x : α) : ((P ++ x :: S).toArray)[P.length]! = x := by
  rw [getElem!_pos _ _ (by simp)]
  simp
theorem at_idx (l : List α) (i : Nat) (h : i < l.length) : (l.toArray)[i]! = l[i] := by
  rw [getElem!_pos _ _ (by simpa using h)]
  simp
theorem swp_list (P M S : List α) (x y : α) : swp (P ++ x :: M ++ y :: S).toArray P.length (P.length + 1 + M.length) = (P ++ y :: M ++ x :: S).toArray := by
  have h1 : ((P ++ x :: M ++ y :: S).toArray)[P.length]! = x := by
    rw [show P ++ x :: M ++ y :: S = P ++ x :: (M ++ y :: S) by simp]
    exact at_app _ _ _
  have h2 : ((P ++ x :: M ++ y :: S).toArray)[P.length + 1 + M.length]! = y := by
    have := at_app (P ++ x :: M) S y
    rw [show (P ++ x :: M).length = P.length + 1 + M.length by simp; omega] at this
    exact this
  unfold swp
  rw [h1, h2]
  simp only [List.setIfInBounds_toArray]
  congr 1
  rw [show P ++ x :: M ++ y :: S = P ++ x :: (M ++ y :: S) by simp, List.set_append_right _ _ (Nat.le_refl _), Nat.sub_self, List.set_cons_zero]
  rw [show P ++ y :: (M ++ y :: S) = (P ++ y :: M) ++ y :: S by simp, List.set_append_right _ _ (by simp; omega)]
  rw [show P.length + 1 + M.length - (P ++ y :: M).length = 0 by simp; omega, List.set_cons_zero]
theorem swapRange_list : ∀ (X Y P Z S : List α), X.length = Y.length →
    swapRange P.length (P.length + X.length + Z.length) X.length (P ++ X ++ Z ++ Y ++ S).toArray = (P ++ Y ++ Z ++ X ++ S).toArray
  | [], Y, P, Z, S, h => by
    obtain rfl : Y = [] := List.length_eq_zero_iff.1 h.symm
    simp [swapRange]
  | x :: X, [], P, Z, S, h => by simp at h
  | x :: X, y :: Y, P, Z, S, h => by
    have h' : X.length = Y.length := by simpa using h
    have e1 : P ++ x :: X ++ Z ++ y :: Y ++ S = P ++ x :: (X ++ Z) ++ y :: (Y ++ S) := by simp
    have e2 : P.length + (x :: X).length + Z.length = P.length + 1 + (X ++ Z).length := by simp; omega
    have ih := swapRange_list X Y (P ++ [y]) (Z ++ [x]) S h'
    rw [e1, e2]
    show swapRange (P.length + 1) (P.length + 1 + (X ++ Z).length + 1) X.length (swp _ P.length (P.length + 1 + (X ++ Z).length)) = _
    rw [swp_list]
    rw [show (P ++ [y]).length = P.length + 1 by simp, show P.length + 1 + X.length + (Z ++ [x]).length = P.length + 1 + (X ++ Z).length + 1 by simp; omega] at ih
    rw [show P ++ y :: (X ++ Z) ++ x :: (Y ++ S) = P ++ [y] ++ X ++ (Z ++ [x]) ++ Y ++ S by simp, ih]
    simp
theorem rot_list : ∀ (k : Nat) (P X Y S : List α) (m : Nat), m = P.length + X.length → X ≠ [] → Y ≠ [] → X.length + Y.length ≤ k →
    rot m k X.length Y.length (P ++ X ++ Y ++ S).toArray = (P ++ Y ++ X ++ S).toArray
  | 0, P, X, Y, S, m, hm, hX, hY, hk => by
    have := List.length_pos_iff.2 hX
    omega
  | k + 1, P, X, Y, S, m, hm, hX, hY, hk => by
    have h1 := List.length_pos_iff.2 hX
    have h2 := List.length_pos_iff.2 hY
    unfold rot
    by_cases he : X.length = Y.length
    · rw [if_pos he]
      have := swapRange_list X Y P [] S he
      simp only [List.append_nil, List.length_nil, Nat.add_zero] at this
      rw [hm, Nat.add_sub_cancel]
      exact this
    · rw [if_neg he]
      by_cases hlt : Y.length < X.length
      · rw [if_pos hlt]
        obtain ⟨X1, X2, rfl, hl⟩ : ∃ X1 X2, X = X1 ++ X2 ∧ X1.length = Y.length := ⟨X.take Y.length, X.drop Y.length, (List.take_append_drop _ _).symm, by simp; omega⟩
        have hs := swapRange_list X1 Y P X2 S hl
        rw [List.length_append] at hlt h1 hm hk he ⊢
        rw [show m - (X1.length + X2.length) = P.length by omega, show m = P.length + X1.length + X2.length by omega, ← hl]
        rw [show P ++ (X1 ++ X2) ++ Y ++ S = P ++ X1 ++ X2 ++ Y ++ S by simp, hs]
        have ih := rot_list k (P ++ Y) X2 X1 S (P.length + X1.length + X2.length) (by simp; omega) (by rintro rfl; simp at hlt; omega) (by rintro rfl; simp at hl; omega) (by omega)
        rw [show X1.length + X2.length - X1.length = X2.length by omega, ih]
        simp
      · rw [if_neg hlt]
        obtain ⟨Y1, Y2, rfl, hl⟩ : ∃ Y1 Y2, Y = Y1 ++ Y2 ∧ Y2.length = X.length := ⟨Y.take (Y.length - X.length), Y.drop (Y.length - X.length), (List.take_append_drop _ _).symm, by simp; omega⟩
        have hs := swapRange_list X Y2 P Y1 S hl.symm
        rw [List.length_append] at hlt h2 hk he ⊢
        rw [show m - X.length = P.length by omega, show m + (Y1.length + Y2.length) - X.length = P.length + X.length + Y1.length by omega]
        rw [show P ++ X ++ (Y1 ++ Y2) ++ S = P ++ X ++ Y1 ++ Y2 ++ S by simp, hs]
        have ih := rot_list k P Y2 Y1 (X ++ S) m (by omega) (by rintro rfl; simp at hl; omega) (by rintro rfl; simp at he; omega) (by omega)
        rw [show Y1.length + Y2.length - X.length = Y1.length by omega, ← hl, show P ++ Y2 ++ Y1 ++ X ++ S = P ++ Y2 ++ Y1 ++ (X ++ S) by simp, ih]
        simp
theorem shUp_list : ∀ (R P S : List α) (x : α), shUp R.length P.length (P ++ x :: (R ++ S)).toArray = (P ++ R ++ x :: S).toArray
  | [], P, S, x => by simp [shUp]
  | y :: R, P, S, x => by
    have ih := shUp_list R (P ++ [y]) S x
    have hs := swp_list P [] (R ++ S) x y
    simp only [List.length_nil, Nat.add_zero] at hs
    show shUp R.length (P.length + 1) (swp _ P.length (P.length + 1)) = _
    rw [show P ++ x :: (y :: R ++ S) = P ++ [x] ++ y :: (R ++ S) by simp, hs]
    rw [show (P ++ [y]).length = P.length + 1 by simp] at ih
    rw [show P ++ [y] ++ x :: (R ++ S) = P ++ [y] ++ x :: (R ++ S) from rfl, ih]
    simp
theorem swp_comm (d : Array α) (i j : Nat) (hij : i ≠ j) : swp d i j = swp d j i := by
  unfold swp
  rw [Array.setIfInBounds_comm _ _ hij]
theorem shDn_list : ∀ (n : Nat) (L P S : List α) (x : α), L.length = n → shDn L.length (P.length + L.length) (P ++ L ++ x :: S).toArray = (P ++ x :: (L ++ S)).toArray
  | 0, L, P, S, x, h => by
    obtain rfl := List.length_eq_zero_iff.1 h
    simp [shDn]
  | n + 1, L, P, S, x, h => by
    obtain ⟨L', y, rfl⟩ : ∃ L' y, L = L' ++ [y] := ⟨L.dropLast, L.getLast (by rintro rfl; simp at h), (List.dropLast_concat_getLast _).symm⟩
    have hl : L'.length = n := by simpa using h
    have ih := shDn_list n L' P (y :: S) x hl
    have hs := swp_list (P ++ L') [] S y x
    simp only [List.length_nil, Nat.add_zero, List.length_append] at hs
    rw [List.length_append]
    show shDn L'.length (P.length + (L'.length + 1) - 1) (swp _ (P.length + (L'.length + 1)) (P.length + (L'.length + 1) - 1)) = _
    rw [show P.length + (L'.length + 1) - 1 = P.length + L'.length by omega, show P.length + (L'.length + 1) = P.length + L'.length + 1 by omega, swp_comm _ _ _ (by omega)]
    rw [show P ++ (L' ++ [y]) ++ x :: S = P ++ L' ++ [y] ++ x :: S by simp, hs]
    rw [show P ++ L' ++ [x] ++ y :: S = P ++ L' ++ x :: y :: S by simp, ih]
    simp

/-! ### the search -/
theorem bsearch_spec (p : Nat → Bool) : ∀ (k i j : Nat), i ≤ j → j - i ≤ k → (∀ x y, i ≤ x → x ≤ y → y < j → p y = true → p x = true) →
    i ≤ bsearch p k i j ∧ bsearch p k i j ≤ j ∧ (∀ x, i ≤ x → x < bsearch p k i j → p x = true) ∧ (∀ x, bsearch p k i j ≤ x → x < j → p x = false)
  | 0, i, j, h, hk, hm => by
    unfold bsearch
    exact ⟨Nat.le_refl _, h, fun x h1 h2 => by omega, fun x h1 h2 => by omega⟩
  | k + 1, i, j, h, hk, hm => by
    unfold bsearch
    by_cases hij : i < j
    · rw [if_pos hij]
      by_cases hp : p ((i + j) / 2) = true
      · rw [if_pos hp]
        obtain ⟨h1, h2, h3, h4⟩ := bsearch_spec p k ((i + j) / 2 + 1) j (by omega) (by omega) (fun x y hx hxy hy => hm x y (by omega) hxy hy)
        exact ⟨by omega, h2, fun x hx hxl => by
          by_cases hc : x ≤ (i + j) / 2
          · exact hm x _ hx hc (by omega) hp
          · exact h3 x (by omega) hxl, h4⟩
      · rw [if_neg hp]
        obtain ⟨h1, h2, h3, h4⟩ := bsearch_spec p k i ((i + j) / 2) (by omega) (by omega) (fun x y hx hxy hy => hm x y hx hxy (by omega))
        refine ⟨h1, by omega, h3, fun x hx hxl => ?_⟩
        by_cases hc : x < (i + j) / 2
        · exact h4 x hx hc
        · have : ¬ p x = true := fun hpx => hp (hm _ x (by omega) (by omega) hxl hpx)
          simpa using this
    · rw [if_neg hij]
      exact ⟨Nat.le_refl _, h, fun x h1 h2 => by omega, fun x h1 h2 => by omega⟩

/-! ### the order with tags -/
section
variable (lt : α → α → Bool) (τ : α → Nat)
/-- Ties go by tag. -/
def ltT (x y : α) : Bool := lt x y || (!lt y x && decide (τ x < τ y))
def Le (x y : α) : Prop := ltT lt τ y x = false
end
variable {lt : α → α → Bool} {τ : α → Nat}
theorem le_iff (x y : α) : Le lt τ x y ↔ lt y x = false ∧ (lt x y = true ∨ τ x ≤ τ y) := by
  unfold Le ltT
  cases h1 : lt y x <;> cases h2 : lt x y <;> simp [h1, h2]
theorem asym (hS : SWO lt) {x y : α} (h : lt x y = true) : lt y x = false := by
  cases h' : lt y x
  · rfl
  · have := hS.trans x y x h h'
    rw [hS.irrefl] at this
    cases this
theorem swoT (hS : SWO lt) : SWO (ltT lt τ) where
  irrefl := fun x => by simp [ltT, hS.irrefl]
  trans := fun x y z h1 h2 => by
    unfold ltT at h1 h2 ⊢
    simp only [Bool.or_eq_true, Bool.and_eq_true, Bool.not_eq_true', decide_eq_true_eq] at h1 h2 ⊢
    rcases h1 with h1 | ⟨h1, t1⟩
    · rcases h2 with h2 | ⟨h2, t2⟩
      · exact .inl (hS.trans _ _ _ h1 h2)
      · left
        cases h : lt x z
        · have := hS.ntrans x z y h h2
          rw [this] at h1
          cases h1
        · rfl
    · rcases h2 with h2 | ⟨h2, t2⟩
      · left
        cases h : lt x z
        · have := hS.ntrans y x z h1 h
          rw [this] at h2
          cases h2
        · rfl
      · by_cases h : lt x z = true
        · exact .inl h
        · exact .inr ⟨hS.ntrans z y x h2 h1, by omega⟩
  ntrans := fun x y z h1 h2 => by
    have a1 : Le lt τ y x := h1
    have a2 : Le lt τ z y := h2
    show Le lt τ z x
    rw [le_iff] at *
    refine ⟨hS.ntrans x y z a1.1 a2.1, ?_⟩
    rcases a1.2 with b1 | b1
    · left
      cases h : lt z x
      · have := hS.ntrans y z x a2.1 h
        rw [this] at b1
        cases b1
      · rfl
    · rcases a2.2 with b2 | b2
      · left
        cases h : lt z x
        · have := hS.ntrans z x y h a1.1
          rw [this] at b2
          cases b2
        · rfl
      · exact .inr (by omega)
theorem le_trans (hS : SWO lt) {x y z : α} (h1 : Le lt τ x y) (h2 : Le lt τ y z) : Le lt τ x z := (swoT hS).ntrans z y x h2 h1
theorem le_refl (hS : SWO lt) (x : α) : Le lt τ x x := (swoT hS).irrefl x
/-- x is from the left run, y from the right one. -/
theorem le_lr {x y : α} (ht : τ x < τ y) (h : lt y x = false) : Le lt τ x y := (le_iff x y).2 ⟨h, .inr (Nat.le_of_lt ht)⟩
theorem le_rl (hS : SWO lt) {x y : α} (h : lt y x = true) : Le lt τ y x := (le_iff y x).2 ⟨asym hS h, .inl h⟩
theorem sorted_idx {l : List α} (hs : l.Pairwise (Le lt τ)) (hS : SWO lt) {i j : Nat} (hij : i ≤ j) (hj : j < l.length) : Le lt τ (l[i]'(by omega)) l[j] := by
  rcases Nat.lt_or_eq_of_le hij with h | rfl
  · exact List.pairwise_iff_getElem.1 hs i j (by omega) hj h
  · exact le_refl hS _
theorem lt_down (hS : SWO lt) {x y z : α} (h : Le lt τ x y) (h2 : lt y z = true) : lt x z = true := by
  rw [le_iff] at h
  cases h' : lt x z
  · have := hS.ntrans y x z h.1 h'
    rw [this] at h2
    cases h2
  · rfl
theorem lt_up (hS : SWO lt) {x y z : α} (h : Le lt τ x y) (h2 : lt z x = true) : lt z y = true := by
  rw [le_iff] at h
  cases h' : lt z y
  · have := hS.ntrans z y x h' h.1
    rw [this] at h2
    cases h2
  · rfl

theorem mem_take_idx {l : List α} {k : Nat} {x : α} (h : x ∈ l.take k) : ∃ i, ∃ hi : i < l.length, i < k ∧ l[i] = x := by
  obtain ⟨i, hi, he⟩ := List.getElem_of_mem h
  rw [List.length_take] at hi
  refine ⟨i, by omega, by omega, ?_⟩
  rw [List.getElem_take] at he
  exact he
theorem mem_drop_idx {l : List α} {k : Nat} {x : α} (h : x ∈ l.drop k) : ∃ i, ∃ hi : i < l.length, k ≤ i ∧ l[i] = x := by
  obtain ⟨i, hi, he⟩ := List.getElem_of_mem h
  rw [List.length_drop] at hi
  rw [List.getElem_drop] at he
  exact ⟨k + i, by omega, by omega, he⟩

/-! ### symMerge -/
theorem symMerge_spec (hS : SWO lt) : ∀ (f : Nat) (P L R S : List α), L ≠ [] → R ≠ [] → L.length + R.length ≤ f → L.Pairwise (Le lt τ) → R.Pairwise (Le lt τ) → (∀ x ∈ L, ∀ y ∈ R, τ x < τ y) →
    ∃ M, symMerge lt f P.length (P.length + L.length) (P.length + L.length + R.length) (P ++ L ++ R ++ S).toArray = (P ++ M ++ S).toArray ∧ M.Perm (L ++ R) ∧ M.Pairwise (Le lt τ)
  | 0, P, L, R, S, hL, hR, hf, sL, sR, ht => by
    have := List.length_pos_iff.2 hL
    omega
  | f + 1, P, L, R, S, hL, hR, hf, sL, sR, ht => by
    have l0 := List.length_pos_iff.2 hL
    have r0 := List.length_pos_iff.2 hR
    have gL : ∀ j (h : j < L.length), ((P ++ L ++ R ++ S).toArray)[P.length + j]! = L[j] := fun j h => by
      rw [at_idx _ _ (by simp; omega)]
      rw [List.getElem_append_left (by simp; omega), List.getElem_append_left (by simp; omega), List.getElem_append_right (by omega)]
      simp
    have gR : ∀ j (h : j < R.length), ((P ++ L ++ R ++ S).toArray)[P.length + L.length + j]! = R[j] := fun j h => by
      rw [at_idx _ _ (by simp; omega)]
      rw [List.getElem_append_left (by simp; omega), List.getElem_append_right (by simp)]
      congr 1
      simp
    unfold symMerge
    by_cases c1 : P.length + L.length - P.length = 1
    · rw [if_pos c1]
      obtain ⟨x, rfl⟩ : ∃ x, L = [x] := List.length_eq_one_iff.1 (by omega)
      have hx := gL 0 (by simp)
      simp only [Nat.add_zero, List.getElem_cons_zero] at hx
      rw [hx]
      simp only [List.length_singleton] at gR ⊢
      obtain ⟨h1, h2, h3, h4⟩ := bsearch_spec (fun h => lt ((P ++ [x] ++ R ++ S).toArray)[h]! x) (P.length + 1 + R.length - (P.length + 1)) (P.length + 1) (P.length + 1 + R.length) (by omega) (Nat.le_refl _) (fun u v hu huv hv hp => by
        obtain ⟨u, rfl⟩ : ∃ u', u = P.length + 1 + u' := ⟨u - (P.length + 1), by omega⟩
        obtain ⟨v, rfl⟩ : ∃ v', v = P.length + 1 + v' := ⟨v - (P.length + 1), by omega⟩
        rw [gR v (by omega)] at hp
        rw [gR u (by omega)]
        exact lt_down hS (sorted_idx sR hS (by omega) (by omega)) hp)
      generalize bsearch (fun h => lt ((P ++ [x] ++ R ++ S).toArray)[h]! x) (P.length + 1 + R.length - (P.length + 1)) (P.length + 1) (P.length + 1 + R.length) = q at *
      obtain ⟨q, rfl⟩ : ∃ q', q = P.length + 1 + q' := ⟨q - (P.length + 1), by omega⟩
      have hq : q ≤ R.length := by omega
      have k1 : ∀ y ∈ R.take q, lt y x = true := fun y hy => by
        obtain ⟨i, hi, hiq, rfl⟩ := mem_take_idx hy
        have := h3 (P.length + 1 + i) (by omega) (by omega)
        rw [gR i hi] at this
        exact this
      have k2 : ∀ y ∈ R.drop q, lt y x = false := fun y hy => by
        obtain ⟨i, hi, hiq, rfl⟩ := mem_drop_idx hy
        have := h4 (P.length + 1 + i) (by omega) (by omega)
        rw [gR i hi] at this
        exact this
      have hsh := shUp_list (R.take q) P (R.drop q ++ S) x
      rw [List.length_take, Nat.min_eq_left hq] at hsh
      refine ⟨R.take q ++ x :: R.drop q, ?_, ?_, ?_⟩
      · rw [show P.length + 1 + q - 1 - P.length = q by omega]
        rw [show P ++ [x] ++ R ++ S = P ++ x :: (R.take q ++ (R.drop q ++ S)) by rw [← List.append_assoc (R.take q), List.take_append_drop]; simp, hsh]
        simp
      · have := (List.perm_middle (a := x) (l₁ := R.take q) (l₂ := R.drop q))
        rw [List.take_append_drop] at this
        simpa using this
      · rw [List.pairwise_append]
        refine ⟨sR.sublist (List.take_sublist _ _), List.pairwise_cons.2 ⟨fun y hy => le_lr (ht x (by simp) y (List.mem_of_mem_drop hy)) (k2 y hy), sR.sublist (List.drop_sublist _ _)⟩, fun a ha b hb => ?_⟩
        rcases List.mem_cons.1 hb with rfl | hb
        · exact le_rl hS (k1 a ha)
        · obtain ⟨i, hi, hiq, rfl⟩ := mem_take_idx ha
          obtain ⟨j, hj, hjq, rfl⟩ := mem_drop_idx hb
          exact sorted_idx sR hS (by omega) hj
    rw [if_neg c1]
    by_cases c2 : P.length + L.length + R.length - (P.length + L.length) = 1
    · rw [if_pos c2]
      obtain ⟨y, rfl⟩ : ∃ y, R = [y] := List.length_eq_one_iff.1 (by omega)
      have hy := gR 0 (by simp)
      simp only [Nat.add_zero, List.getElem_cons_zero] at hy
      rw [hy]
      obtain ⟨h1, h2, h3, h4⟩ := bsearch_spec (fun h => !lt y ((P ++ L ++ [y] ++ S).toArray)[h]!) (P.length + L.length - P.length) P.length (P.length + L.length) (by omega) (Nat.le_refl _) (fun u v hu huv hv hp => by
        obtain ⟨u, rfl⟩ : ∃ u', u = P.length + u' := ⟨u - P.length, by omega⟩
        obtain ⟨v, rfl⟩ : ∃ v', v = P.length + v' := ⟨v - P.length, by omega⟩
        rw [gL v (by omega)] at hp
        rw [gL u (by omega)]
        cases h' : lt y L[u]
        · rfl
        · have := lt_up hS (sorted_idx sL hS (show u ≤ v by omega) (by omega)) h'
          rw [this] at hp
          cases hp)
      generalize bsearch (fun h => !lt y ((P ++ L ++ [y] ++ S).toArray)[h]!) (P.length + L.length - P.length) P.length (P.length + L.length) = q at *
      obtain ⟨q, rfl⟩ : ∃ q', q = P.length + q' := ⟨q - P.length, by omega⟩
      have hq : q ≤ L.length := by omega
      have k1 : ∀ x ∈ L.take q, lt y x = false := fun x hx => by
        obtain ⟨i, hi, hiq, rfl⟩ := mem_take_idx hx
        have := h3 (P.length + i) (by omega) (by omega)
        rw [gL i hi] at this
        simpa using this
      have k2 : ∀ x ∈ L.drop q, lt y x = true := fun x hx => by
        obtain ⟨i, hi, hiq, rfl⟩ := mem_drop_idx hx
        have := h4 (P.length + i) (by omega) (by omega)
        rw [gL i hi] at this
        simpa using this
      have hsh := shDn_list (L.drop q).length (L.drop q) (P ++ L.take q) S y rfl
      rw [List.length_append, List.length_take, Nat.min_eq_left hq, List.length_drop] at hsh
      refine ⟨L.take q ++ y :: L.drop q, ?_, ?_, ?_⟩
      · rw [show P.length + L.length - (P.length + q) = L.length - q by omega]
        rw [show P.length + q + (L.length - q) = P.length + L.length by omega] at hsh
        rw [show P ++ L ++ [y] ++ S = P ++ L.take q ++ L.drop q ++ y :: S by (conv => lhs; rw [← List.take_append_drop q L]); simp, hsh]
        simp
      · have := (List.perm_middle (a := y) (l₁ := L.take q) (l₂ := L.drop q))
        rw [List.take_append_drop] at this
        exact this.trans (List.perm_append_comm (l₁ := [y]) (l₂ := L))
      · rw [List.pairwise_append]
        refine ⟨sL.sublist (List.take_sublist _ _), List.pairwise_cons.2 ⟨fun x hx => le_rl hS (k2 x hx), sL.sublist (List.drop_sublist _ _)⟩, fun a ha b hb => ?_⟩
        rcases List.mem_cons.1 hb with rfl | hb
        · exact le_lr (ht a (List.mem_of_mem_take ha) b (by simp)) (k1 a ha)
        · obtain ⟨i, hi, hiq, rfl⟩ := mem_take_idx ha
          obtain ⟨j, hj, hjq, rfl⟩ := mem_drop_idx hb
          exact sorted_idx sL hS (by omega) hj
    rw [if_neg c2]
    obtain ⟨mid, hmid⟩ : ∃ mid, (P.length + (P.length + L.length + R.length)) / 2 = mid := ⟨_, rfl⟩
    have hm1 : 2 * mid ≤ 2 * P.length + L.length + R.length ∧ 2 * P.length + L.length + R.length ≤ 2 * mid + 1 := by omega
    dsimp only
    unfold smS smStart smR
    rw [hmid]
    obtain ⟨s0, hs0⟩ : ∃ s0, (if mid < P.length + L.length then mid + (P.length + L.length) - (P.length + L.length + R.length) else P.length) = s0 := ⟨_, rfl⟩
    obtain ⟨t0, ht0⟩ : ∃ t0, (if mid < P.length + L.length then mid else P.length + L.length) = t0 := ⟨_, rfl⟩
    rw [hs0, ht0]
    have b0 : P.length ≤ s0 ∧ s0 ≤ t0 ∧ t0 ≤ mid ∧ t0 ≤ P.length + L.length ∧ mid + (P.length + L.length) ≤ s0 + (P.length + L.length + R.length) ∧ (s0 = P.length ∨ mid + (P.length + L.length) = s0 + (P.length + L.length + R.length)) ∧ (t0 = mid ∨ t0 = P.length + L.length) := by
      split at hs0 <;> split at ht0 <;> omega
    clear hs0 ht0 hmid
    have gL' : ∀ c, P.length ≤ c → (h : c < P.length + L.length) → ((P ++ L ++ R ++ S).toArray)[c]! = L[c - P.length]'(by omega) := fun c h1 h2 => by
      have := gL (c - P.length) (by omega)
      rw [show P.length + (c - P.length) = c by omega] at this
      exact this
    have gR' : ∀ c, P.length + L.length ≤ c → (h : c < P.length + L.length + R.length) → ((P ++ L ++ R ++ S).toArray)[c]! = R[c - (P.length + L.length)]'(by omega) := fun c h1 h2 => by
      have := gR (c - (P.length + L.length)) (by omega)
      rw [show P.length + L.length + (c - (P.length + L.length)) = c by omega] at this
      exact this
    obtain ⟨h1, h2, h3, h4⟩ := bsearch_spec (fun c => !lt ((P ++ L ++ R ++ S).toArray)[mid + (P.length + L.length) - 1 - c]! ((P ++ L ++ R ++ S).toArray)[c]!) (t0 - s0) s0 t0 (by omega) (Nat.le_refl _) (fun u v hu huv hv hp => by
      rw [gR' _ (by omega) (by omega), gL' _ (by omega) (by omega)] at hp ⊢
      cases h' : lt (R[mid + (P.length + L.length) - 1 - u - (P.length + L.length)]'(by omega)) (L[u - P.length]'(by omega))
      · rfl
      · have e1 := lt_up hS (sorted_idx sL hS (show u - P.length ≤ v - P.length by omega) (by omega)) h'
        have e2 := lt_down hS (sorted_idx sR hS (show mid + (P.length + L.length) - 1 - v - (P.length + L.length) ≤ mid + (P.length + L.length) - 1 - u - (P.length + L.length) by omega) (by omega)) e1
        rw [e2] at hp
        cases hp)
    generalize bsearch (fun c => !lt ((P ++ L ++ R ++ S).toArray)[mid + (P.length + L.length) - 1 - c]! ((P ++ L ++ R ++ S).toArray)[c]!) (t0 - s0) s0 t0 = s at *
    -- the parts
    obtain ⟨i1, hi1⟩ : ∃ i1, s = P.length + i1 := ⟨s - P.length, by omega⟩
    obtain ⟨j1, hj1⟩ : ∃ j1, mid = s + j1 := ⟨mid - s, by omega⟩
    have bi : i1 ≤ L.length := by omega
    have bj : j1 ≤ R.length := by omega
    have kA : ∀ x ∈ L.take i1, ∀ y ∈ R.drop j1, Le lt τ x y := fun x hx y hy => by
      obtain ⟨u, hu, hui, rfl⟩ := mem_take_idx hx
      obtain ⟨v, hv, hvj, rfl⟩ := mem_drop_idx hy
      refine le_lr (ht _ (List.getElem_mem _) _ (List.getElem_mem _)) ?_
      have hs : s0 < s := by omega
      have q := h3 (s - 1) (by omega) (by omega)
      rw [gR' _ (by omega) (by omega), gL' _ (by omega) (by omega)] at q
      cases h' : lt R[v] L[u]
      · rfl
      · have e1 := lt_up hS (sorted_idx sL hS (show u ≤ s - 1 - P.length by omega) (by omega)) h'
        have e2 := lt_down hS (sorted_idx sR hS (show mid + (P.length + L.length) - 1 - (s - 1) - (P.length + L.length) ≤ v by omega) (by omega)) e1
        rw [e2] at q
        cases q
    have kB : ∀ y ∈ R.take j1, ∀ x ∈ L.drop i1, Le lt τ y x := fun y hy x hx => by
      obtain ⟨v, hv, hvj, rfl⟩ := mem_take_idx hy
      obtain ⟨u, hu, hui, rfl⟩ := mem_drop_idx hx
      refine le_rl hS ?_
      have hs : s < t0 := by omega
      have q := h4 s (by omega) (by omega)
      rw [gR' _ (by omega) (by omega), gL' _ (by omega) (by omega)] at q
      have q' : lt (R[mid + (P.length + L.length) - 1 - s - (P.length + L.length)]'(by omega)) (L[s - P.length]'(by omega)) = true := by simpa using q
      have e1 := lt_up hS (sorted_idx sL hS (show s - P.length ≤ u by omega) (by omega)) q'
      exact lt_down hS (sorted_idx sR hS (show v ≤ mid + (P.length + L.length) - 1 - s - (P.length + L.length) by omega) (by omega)) e1
    clear h3 h4 gL gR gL' gR'
    obtain ⟨L1, L2, rfl, rfl⟩ : ∃ L1 L2, L = L1 ++ L2 ∧ L1.length = i1 := ⟨L.take i1, L.drop i1, (List.take_append_drop _ _).symm, by simp; omega⟩
    obtain ⟨R1, R2, rfl, rfl⟩ : ∃ R1 R2, R = R1 ++ R2 ∧ R1.length = j1 := ⟨R.take j1, R.drop j1, (List.take_append_drop _ _).symm, by simp; omega⟩
    rw [List.take_left' rfl, List.drop_left' rfl] at kA kB
    rw [List.pairwise_append] at sL sR
    simp only [List.length_append] at *
    have hd1 : (if s < P.length + (L1.length + L2.length) ∧ P.length + (L1.length + L2.length) < mid + (P.length + (L1.length + L2.length)) - s then rot (P.length + (L1.length + L2.length)) (P.length + (L1.length + L2.length) - s + (mid + (P.length + (L1.length + L2.length)) - s - (P.length + (L1.length + L2.length)))) (P.length + (L1.length + L2.length) - s) (mid + (P.length + (L1.length + L2.length)) - s - (P.length + (L1.length + L2.length))) (P ++ (L1 ++ L2) ++ (R1 ++ R2) ++ S).toArray else (P ++ (L1 ++ L2) ++ (R1 ++ R2) ++ S).toArray) = (P ++ (L1 ++ R1) ++ (L2 ++ R2 ++ S)).toArray := by
      by_cases hc : s < P.length + (L1.length + L2.length) ∧ P.length + (L1.length + L2.length) < mid + (P.length + (L1.length + L2.length)) - s
      · rw [if_pos hc]
        have := rot_list (L2.length + R1.length) (P ++ L1) L2 R1 (R2 ++ S) (P.length + (L1.length + L2.length)) (by simp; omega) (by rintro rfl; simp at *; omega) (by rintro rfl; simp at *; omega) (Nat.le_refl _)
        rw [show P.length + (L1.length + L2.length) - s = L2.length by omega, show mid + (P.length + (L1.length + L2.length)) - s - (P.length + (L1.length + L2.length)) = R1.length by omega]
        rw [show P ++ (L1 ++ L2) ++ (R1 ++ R2) ++ S = P ++ L1 ++ L2 ++ R1 ++ (R2 ++ S) by simp, this]
        simp
      · rw [if_neg hc]
        have : L2 = [] ∨ R1 = [] := by
          rcases Nat.eq_zero_or_pos L2.length with h | h
          · exact .inl (List.length_eq_zero_iff.1 h)
          · exact .inr (List.length_eq_zero_iff.1 (by omega))
        rcases this with rfl | rfl <;> simp
    rw [hd1]
    clear hd1
    -- the first half
    obtain ⟨M1, hM1, pM1, sM1⟩ : ∃ M1, (if P.length < s ∧ s < mid then symMerge lt f P.length s mid (P ++ (L1 ++ R1) ++ (L2 ++ R2 ++ S)).toArray else (P ++ (L1 ++ R1) ++ (L2 ++ R2 ++ S)).toArray) = (P ++ M1 ++ (L2 ++ R2 ++ S)).toArray ∧ M1.Perm (L1 ++ R1) ∧ M1.Pairwise (Le lt τ) := by
      by_cases hc : P.length < s ∧ s < mid
      · rw [if_pos hc]
        obtain ⟨M1, e, p, q⟩ := symMerge_spec hS f P L1 R1 (L2 ++ R2 ++ S) (by rintro rfl; simp at *; omega) (by rintro rfl; simp at *; omega) (by omega) sL.1 sR.1 (fun x hx y hy => ht x (by simp [hx]) y (by simp [hy]))
        refine ⟨M1, ?_, p, q⟩
        rw [show mid = P.length + L1.length + R1.length by omega, hi1, show P ++ (L1 ++ R1) ++ (L2 ++ R2 ++ S) = P ++ L1 ++ R1 ++ (L2 ++ R2 ++ S) by simp]
        exact e
      · rw [if_neg hc]
        refine ⟨L1 ++ R1, rfl, List.Perm.refl _, ?_⟩
        have : L1 = [] ∨ R1 = [] := by
          rcases Nat.eq_zero_or_pos L1.length with h | h
          · exact .inl (List.length_eq_zero_iff.1 h)
          · exact .inr (List.length_eq_zero_iff.1 (by omega))
        rcases this with rfl | rfl
        · simpa using sR.1
        · simpa using sL.1
    rw [hM1]
    clear hM1
    have lM1 : M1.length = L1.length + R1.length := by rw [pM1.length_eq, List.length_append]
    obtain ⟨M2, hM2, pM2, sM2⟩ : ∃ M2, (if mid < mid + (P.length + (L1.length + L2.length)) - s ∧ mid + (P.length + (L1.length + L2.length)) - s < P.length + (L1.length + L2.length) + (R1.length + R2.length) then symMerge lt f mid (mid + (P.length + (L1.length + L2.length)) - s) (P.length + (L1.length + L2.length) + (R1.length + R2.length)) (P ++ M1 ++ (L2 ++ R2 ++ S)).toArray else (P ++ M1 ++ (L2 ++ R2 ++ S)).toArray) = (P ++ M1 ++ M2 ++ S).toArray ∧ M2.Perm (L2 ++ R2) ∧ M2.Pairwise (Le lt τ) := by
      by_cases hc : mid < mid + (P.length + (L1.length + L2.length)) - s ∧ mid + (P.length + (L1.length + L2.length)) - s < P.length + (L1.length + L2.length) + (R1.length + R2.length)
      · rw [if_pos hc]
        obtain ⟨M2, e, p, q⟩ := symMerge_spec hS f (P ++ M1) L2 R2 S (by rintro rfl; simp at *; omega) (by rintro rfl; simp at *; omega) (by omega) sL.2.1 sR.2.1 (fun x hx y hy => ht x (by simp [hx]) y (by simp [hy]))
        refine ⟨M2, ?_, p, q⟩
        rw [show mid + (P.length + (L1.length + L2.length)) - s = (P ++ M1).length + L2.length by simp; omega, show P.length + (L1.length + L2.length) + (R1.length + R2.length) = (P ++ M1).length + L2.length + R2.length by simp; omega, show mid = (P ++ M1).length by simp; omega, show P ++ M1 ++ (L2 ++ R2 ++ S) = P ++ M1 ++ L2 ++ R2 ++ S by simp]
        exact e
      · rw [if_neg hc]
        refine ⟨L2 ++ R2, by simp, List.Perm.refl _, ?_⟩
        have : L2 = [] ∨ R2 = [] := by
          rcases Nat.eq_zero_or_pos L2.length with h | h
          · exact .inl (List.length_eq_zero_iff.1 h)
          · exact .inr (List.length_eq_zero_iff.1 (by omega))
        rcases this with rfl | rfl
        · simpa using sR.2.1
        · simpa using sL.2.1
    refine ⟨M1 ++ M2, by rw [hM2]; simp, ?_, ?_⟩
    · refine (pM1.append pM2).trans ?_
      rw [List.append_assoc, List.append_assoc]
      refine List.Perm.append_left _ ?_
      rw [← List.append_assoc, ← List.append_assoc]
      exact List.Perm.append_right _ List.perm_append_comm
    · rw [List.pairwise_append]
      refine ⟨sM1, sM2, fun x hx y hy => ?_⟩
      have mx := List.mem_append.1 (pM1.mem_iff.1 hx)
      have my := List.mem_append.1 (pM2.mem_iff.1 hy)
      rcases mx with mx | mx <;> rcases my with my | my
      · exact sL.2.2 x mx y my
      · exact kA x mx y my
      · exact kB x mx y my
      · exact sR.2.2 x mx y my

/-! ### blocks of twenty -/
theorem insInner_perm (lt : α → α → Bool) (a b : Nat) : ∀ (j : Nat) (d : Array α), a ≤ j → j < b → b ≤ d.size → PermIn a b d (insInner lt a j d)
  | 0, d, _, _, _ => by unfold insInner; exact permIn_refl d a b
  | j + 1, d, ha, hj, hb => by
    unfold insInner
    split
    · rename_i hc
      simp only [Bool.and_eq_true, decide_eq_true_eq] at hc
      exact permIn_trans _ _ _ a b (swp_permIn d a b (j + 1) j (by omega) (by omega) (by omega) (by omega) hb) (insInner_perm lt a b j _ (by omega) (by omega) (by rw [swp_size]; exact hb))
    · exact permIn_refl d a b
theorem insInner_eq (a : Nat) : ∀ (j : Nat) (d : Array α), j < d.size → (∀ k, a ≤ k → k < j → τ d[k]! < τ d[j]!) → insInner lt a j d = insInner (ltT lt τ) a j d
  | 0, d, _, _ => by unfold insInner; rfl
  | j + 1, d, hj, ht => by
    unfold insInner
    by_cases hja : j + 1 > a
    · have h := ht j (by omega) (by omega)
      have e : ltT lt τ d[j + 1]! d[j]! = lt d[j + 1]! d[j]! := by
        unfold ltT
        rw [decide_eq_false (by omega)]
        simp
      rw [e]
      split
      · exact insInner_eq a j _ (by rw [swp_size]; omega) (fun k h1 h2 => by
          have g := swp_get d hj (show j < d.size by omega)
          rw [g k, g j, if_neg (by omega), if_neg (by omega), if_pos rfl]
          exact ht k h1 (by omega))
      · rfl
    · simp [hja]
theorem insOuter_eq (a b : Nat) : ∀ (n i : Nat) (d : Array α), b - i = n → a < i → b ≤ d.size → (∀ k l, a ≤ k → k < i → i ≤ l → l < b → τ d[k]! < τ d[l]!) → (∀ k l, i ≤ k → k < l → l < b → τ d[k]! < τ d[l]!) → insOuter lt a b i d = insOuter (ltT lt τ) a b i d
  | 0, i, d, hn, hai, hb, h1, h2 => by
    unfold insOuter
    rw [if_neg (by omega), if_neg (by omega)]
  | n + 1, i, d, hn, hai, hb, h1, h2 => by
    unfold insOuter
    rw [if_pos (by omega), if_pos (by omega), insInner_eq (τ := τ) a i d (by omega) (fun k hk hki => h1 k i hk hki (Nat.le_refl _) (by omega))]
    have hp := insInner_perm (ltT lt τ) a (i + 1) i d (by omega) (by omega) (by omega)
    refine insOuter_eq a b n (i + 1) _ (by omega) (by omega) (by rw [hp.1]; exact hb) (fun k l hk hki hl hlb => ?_) (fun k l hk hkl hlb => ?_)
    · rw [hp.2.1 l (by omega)]
      refine permIn_all d _ a (i + 1) (fun x => τ x < τ d[l]!) (by omega) hp (fun k' h1' h2' => ?_) k hk hki
      by_cases hki' : k' < i
      · exact h1 k' l h1' hki' (by omega) hlb
      · exact h2 k' l (by omega) (by omega) hlb
    · rw [hp.2.1 l (by omega), hp.2.1 k (by omega)]
      exact h2 k l (by omega) hkl hlb
theorem insSort_tag (hS : SWO lt) (d : Array α) (a b : Nat) (hab : a ≤ b) (hb : b ≤ d.size) (ht : ∀ k l, a ≤ k → k < l → l < b → τ d[k]! < τ d[l]!) :
    PermIn a b d (insertionSort lt d a b) ∧ SortedIn (ltT lt τ) a b (insertionSort lt d a b) := by
  have e : insertionSort lt d a b = insertionSort (ltT lt τ) d a b := insOuter_eq a b (b - (a + 1)) (a + 1) d rfl (by omega) hb (fun k l h1 h2 h3 h4 => ht k l h1 (by omega) h4) (fun k l h1 h2 h3 => ht k l (by omega) h2 h3)
  rw [e]
  exact insertionSort_holds (swoT hS) d a b hab hb

/-- d' is d with the places from a up to b moved among themselves. -/
structure Moved (a b : Nat) (d d' : Array α) : Prop where
  size : d'.size = d.size
  out : ∀ i, i < d.size → i < a ∨ b ≤ i → d'[i]! = d[i]!
  inn : ∀ i, a ≤ i → i < b → ∃ k, a ≤ k ∧ k < b ∧ d'[i]! = d[k]!
  perm : d'.toList.Perm d.toList
theorem Moved.of (d d' : Array α) (a b : Nat) (hb : b ≤ d.size) (h : PermIn a b d d') : Moved a b d d' where
  size := h.1
  out := fun i _ hi => h.2.1 i hi
  inn := fun i h1 h2 => permIn_all d d' a b (fun x => ∃ k, a ≤ k ∧ k < b ∧ x = d[k]!) hb h (fun i h1 h2 => ⟨i, h1, h2, rfl⟩) i h1 h2
  perm := by
    have := (permIn_mono d d' a b 0 d.size (Nat.zero_le _) hb (Nat.le_refl _) h).2.2
    rw [← h.1] at this
    have e : (d'.extract 0 d'.size) = d' := Array.extract_size
    rw [e, h.1] at this
    rwa [show d.extract 0 d.size = d from Array.extract_size] at this

/-- The tags of a stretch lie in their chunks, and each chunk is sorted. -/
structure Chunk (lt : α → α → Bool) (τ : α → Nat) (bs lo hi : Nat) (d : Array α) : Prop where
  tag : ∀ i, lo ≤ i → i < hi → τ d[i]! / bs = i / bs
  srt : ∀ i j, lo ≤ i → i < j → j < hi → i / bs = j / bs → Le lt τ d[i]! d[j]!
theorem div_q {m q i : Nat} (h1 : m * q ≤ i) (h2 : i < m * q + m) : i / m = q :=
  Nat.div_eq_of_lt_le (by rw [Nat.mul_comm]; exact h1) (by rw [Nat.add_mul, Nat.one_mul, Nat.mul_comm]; exact h2)

theorem block_step (hS : SWO lt) (n a b : Nat) (d : Array α) (q : Nat) (ha : a = 20 * q) (hn : d.size = n) (hab : a ≤ b) (hb : b ≤ n) (hb2 : b ≤ a + 20) (hC : Chunk lt τ 20 0 a d) (ht : ∀ i, a ≤ i → i < n → τ d[i]! = i) :
    Chunk lt τ 20 0 b (insertionSort lt d a b) ∧ (∀ i, b ≤ i → i < n → τ (insertionSort lt d a b)[i]! = i) ∧ (insertionSort lt d a b).size = n ∧ (insertionSort lt d a b).toList.Perm d.toList := by
  obtain ⟨hp, hs⟩ := insSort_tag (τ := τ) hS d a b hab (by omega) (fun k l h1 h2 h3 => by rw [ht k h1 (by omega), ht l (by omega) (by omega)]; exact h2)
  have hm := Moved.of _ _ a b (by omega) hp
  refine ⟨⟨fun i _ hi => ?_, fun i j _ hij hj he => ?_⟩, fun i h1 h2 => ?_, hm.size.trans hn, hm.perm⟩
  · by_cases hia : i < a
    · rw [hm.out i (by omega) (.inl hia)]
      exact hC.tag i (Nat.zero_le _) hia
    · obtain ⟨k, h1, h2, e⟩ := hm.inn i (by omega) hi
      rw [e, ht k h1 (by omega)]
      omega
  · by_cases hja : j < a
    · rw [hm.out i (by omega) (.inl (by omega)), hm.out j (by omega) (.inl hja)]
      exact hC.srt i j (Nat.zero_le _) hij hja he
    · have : a ≤ i := by omega
      exact hs i j this hij hj
  · rw [hm.out i (by omega) (.inr h1)]
    exact ht i (by omega) h2
theorem blocks_spec (hS : SWO lt) (n : Nat) : ∀ (k q : Nat) (d : Array α), 20 * q ≤ n → d.size = n → n - 20 * q ≤ k → Chunk lt τ 20 0 (20 * q) d → (∀ i, 20 * q ≤ i → i < n → τ d[i]! = i) →
    Chunk lt τ 20 0 n (blocks lt n k (20 * q) d) ∧ (blocks lt n k (20 * q) d).size = n ∧ (blocks lt n k (20 * q) d).toList.Perm d.toList
  | 0, q, d, hq, hn, hk, hC, ht => by
    unfold blocks
    obtain ⟨h1, h2, h3, h4⟩ := block_step hS n (20 * q) n d q rfl hn hq (Nat.le_refl _) (by omega) hC ht
    exact ⟨h1, h3, h4⟩
  | k + 1, q, d, hq, hn, hk, hC, ht => by
    unfold blocks
    by_cases hc : 20 * q + 20 ≤ n
    · rw [if_pos hc]
      obtain ⟨h1, h2, h3, h4⟩ := block_step hS n (20 * q) (20 * q + 20) d q rfl hn (by omega) hc (Nat.le_refl _) hC ht
      obtain ⟨g1, g2, g3⟩ := blocks_spec hS n k (q + 1) _ (by omega) h3 (by omega) h1 h2
      exact ⟨g1, g2, g3.trans h4⟩
    · rw [if_neg hc]
      obtain ⟨h1, h2, h3, h4⟩ := block_step hS n (20 * q) n d q rfl hn hq (Nat.le_refl _) (by omega) hC ht
      exact ⟨h1, h3, h4⟩

/-! ### chunks go together by twos -/
theorem bang_app_left {l r : List α} {i : Nat} (h : i < l.length) : ((l ++ r).toArray)[i]! = l[i] := by
  rw [at_idx _ _ (by simp; omega), List.getElem_append_left h]
theorem bang_app_right {l r : List α} {i : Nat} (h : i < r.length) : ((l ++ r).toArray)[l.length + i]! = r[i] := by
  rw [at_idx _ _ (by simp; omega), List.getElem_append_right (by omega)]
  congr 1
  omega
theorem seg_merge (hS : SWO lt) (n bs a b : Nat) (d : Array α) (hn : d.size = n) (h0 : 0 < bs) (h1 : a + bs < b) (h3 : b ≤ n) (hs : ∀ i j, a ≤ i → i < j → j < b → (j < a + bs ∨ a + bs ≤ i) → Le lt τ d[i]! d[j]!)
    (ht : ∀ i j, a ≤ i → i < a + bs → a + bs ≤ j → j < b → τ d[i]! < τ d[j]!) : Moved a b d (symMerge lt n a (a + bs) b d) ∧ SortedIn (ltT lt τ) a b (symMerge lt n a (a + bs) b d) := by
  obtain ⟨P, L, R, S, e, rfl, rfl, hR⟩ : ∃ P L R S : List α, d = (P ++ L ++ R ++ S).toArray ∧ P.length = a ∧ L.length = bs ∧ P.length + L.length + R.length = b := by
    refine ⟨d.toList.take a, (d.toList.drop a).take bs, (d.toList.drop (a + bs)).take (b - (a + bs)), d.toList.drop b, ?_, ?_, ?_, ?_⟩
    · apply Array.toList_inj.1
      rw [List.append_assoc, List.append_assoc]
      have e1 : List.drop b d.toList = List.drop (b - (a + bs)) (List.drop (a + bs) d.toList) := by rw [List.drop_drop]; congr 1; omega
      rw [e1, List.take_append_drop]
      have e2 : List.drop (a + bs) d.toList = List.drop bs (List.drop a d.toList) := by rw [List.drop_drop]
      rw [e2, List.take_append_drop, List.take_append_drop]
    · simp; omega
    · simp; omega
    · simp; omega
  have hsz : P.length + L.length + R.length + S.length = n := by rw [← hn, e]; simp; omega
  have gL : ∀ j (h : j < L.length), d[P.length + j]! = L[j] := fun j h => by
    rw [e, List.append_assoc, List.append_assoc, bang_app_right (by simp; omega), List.getElem_append_left h]
  have gR : ∀ j (h : j < R.length), d[P.length + L.length + j]! = R[j] := fun j h => by
    have := bang_app_right (l := P ++ L) (r := R ++ S) (i := j) (by simp; omega)
    rw [List.length_append] at this
    rw [e, List.append_assoc, this, List.getElem_append_left h]
  have gO : ∀ M : List α, M.length = L.length + R.length → ∀ i, i < n → (i < P.length ∨ b ≤ i) → ((P ++ M ++ S).toArray)[i]! = d[i]! := fun M hM i hi h => by
    rcases h with h | h
    · rw [e, List.append_assoc, bang_app_left h, List.append_assoc, List.append_assoc, bang_app_left h]
    · obtain ⟨i', rfl⟩ : ∃ i', i = b + i' := ⟨i - b, by omega⟩
      have e1 := bang_app_right (l := P ++ M) (r := S) (i := i') (by omega)
      have e2 := bang_app_right (l := P ++ L ++ R) (r := S) (i := i') (by omega)
      rw [show (P ++ M).length = b by simp; omega] at e1
      rw [show (P ++ L ++ R).length = b by simp; omega] at e2
      rw [e, e1, e2]
  obtain ⟨M, hM, pM, sM⟩ := symMerge_spec (τ := τ) hS n P L R S (by rintro rfl; simp at h0) (by rintro rfl; simp at hR; omega) (by omega)
    (List.pairwise_iff_getElem.2 fun i j hi hj hij => by rw [← gL i hi, ← gL j hj]; exact hs _ _ (by omega) (by omega) (by omega) (.inl (by omega)))
    (List.pairwise_iff_getElem.2 fun i j hi hj hij => by rw [← gR i hi, ← gR j hj]; exact hs _ _ (by omega) (by omega) (by omega) (.inr (by omega)))
    (fun x hx y hy => by
      obtain ⟨i, hi, rfl⟩ := List.getElem_of_mem hx
      obtain ⟨j, hj, rfl⟩ := List.getElem_of_mem hy
      rw [← gL i hi, ← gR j hj]
      exact ht _ _ (by omega) (by omega) (by omega) (by omega))
  have lM : M.length = L.length + R.length := by rw [pM.length_eq, List.length_append]
  have gM : ∀ j (h : j < M.length), ((P ++ M ++ S).toArray)[P.length + j]! = M[j] := fun j h => by
    rw [List.append_assoc, bang_app_right (by simp; omega), List.getElem_append_left h]
  rw [hR] at hM
  have hM' : symMerge lt n P.length (P.length + L.length) b d = (P ++ M ++ S).toArray := by rw [e]; exact hM
  rw [hM']
  refine ⟨⟨by rw [hn]; simp; omega, fun i hi h => gO M lM i (by omega) h, fun i g1 g2 => ?_, ?_⟩, fun i j g1 g2 g3 => ?_⟩
  · obtain ⟨i, rfl⟩ : ∃ i', i = P.length + i' := ⟨i - P.length, by omega⟩
    rw [gM i (by omega)]
    rcases List.mem_append.1 (pM.mem_iff.1 (List.getElem_mem (l := M) (show i < M.length by omega))) with h | h
    · obtain ⟨k, hk, ek⟩ := List.getElem_of_mem h
      exact ⟨P.length + k, by omega, by omega, by rw [gL k hk, ek]⟩
    · obtain ⟨k, hk, ek⟩ := List.getElem_of_mem h
      exact ⟨P.length + L.length + k, by omega, by omega, by rw [gR k hk, ek]⟩
  · rw [e]
    show (P ++ M ++ S).Perm (P ++ L ++ R ++ S)
    refine List.Perm.append_right _ ?_
    rw [List.append_assoc]
    exact List.Perm.append_left _ pM
  · obtain ⟨i, rfl⟩ : ∃ i', i = P.length + i' := ⟨i - P.length, by omega⟩
    obtain ⟨j, rfl⟩ : ∃ j', j = P.length + j' := ⟨j - P.length, by omega⟩
    rw [gM i (by omega), gM j (by omega)]
    exact List.pairwise_iff_getElem.1 sM i j (by omega) (by omega) (by omega)

theorem chunk_step (hS : SWO lt) (n bs q b : Nat) (d : Array α) (hn : d.size = n) (h0 : 0 < bs) (h1 : 2 * bs * q + bs < b) (h2 : b ≤ 2 * bs * q + 2 * bs) (h3 : b ≤ n) (hA : Chunk lt τ (2 * bs) 0 (2 * bs * q) d) (hC : Chunk lt τ bs (2 * bs * q) n d) :
    Chunk lt τ (2 * bs) 0 b (symMerge lt n (2 * bs * q) (2 * bs * q + bs) b d) ∧ Chunk lt τ bs b n (symMerge lt n (2 * bs * q) (2 * bs * q + bs) b d) ∧ (symMerge lt n (2 * bs * q) (2 * bs * q + bs) b d).size = n ∧ (symMerge lt n (2 * bs * q) (2 * bs * q + bs) b d).toList.Perm d.toList := by
  have e2 : 2 * bs * q = bs * (2 * q) := by rw [Nat.mul_comm 2 bs, Nat.mul_assoc]
  have dl : ∀ i, 2 * bs * q ≤ i → i < 2 * bs * q + bs → i / bs = 2 * q := fun i h h' => div_q (by omega) (by omega)
  have dr : ∀ i, 2 * bs * q + bs ≤ i → i < 2 * bs * q + 2 * bs → i / bs = 2 * q + 1 := fun i h h' => div_q (by rw [Nat.mul_add]; omega) (by rw [Nat.mul_add]; omega)
  have dd : ∀ i, 2 * bs * q ≤ i → i < 2 * bs * q + 2 * bs → i / (2 * bs) = q := fun i h h' => div_q h h'
  obtain ⟨hm, hs⟩ := seg_merge (τ := τ) hS n bs (2 * bs * q) b d hn h0 h1 h3 (fun i j g1 g2 g3 g4 => hC.srt i j g1 g2 (by omega) (by
      rcases g4 with g4 | g4
      · rw [dl i g1 (by omega), dl j (by omega) g4]
      · rw [dr i g4 (by omega), dr j (by omega) (by omega)])) (fun i j g1 g2 g3 g4 => by
      have a1 := hC.tag i g1 (by omega)
      have a2 := hC.tag j (by omega) (by omega)
      rw [dl i g1 g2] at a1
      rw [dr j g3 (by omega)] at a2
      rcases Nat.lt_or_ge (τ d[i]!) (τ d[j]!) with h | h
      · exact h
      · have := Nat.div_le_div_right (c := bs) h
        omega)
  generalize symMerge lt n (2 * bs * q) (2 * bs * q + bs) b d = d' at *
  refine ⟨⟨fun i _ hi => ?_, fun i j _ hij hj he => ?_⟩, ⟨fun i g1 g2 => ?_, fun i j g1 g2 g3 g4 => ?_⟩, hm.size.trans hn, hm.perm⟩
  · by_cases hia : i < 2 * bs * q
    · rw [hm.out i (by omega) (.inl hia)]
      exact hA.tag i (Nat.zero_le _) hia
    · obtain ⟨k, g1, g2, e⟩ := hm.inn i (by omega) hi
      rw [e, dd i (by omega) (by omega), show 2 * bs = bs * 2 from Nat.mul_comm _ _, ← Nat.div_div_eq_div_mul, hC.tag k g1 (by omega)]
      by_cases hk : k < 2 * bs * q + bs
      · rw [dl k g1 hk]; omega
      · rw [dr k (by omega) (by omega)]; omega
  · by_cases hja : j < 2 * bs * q
    · rw [hm.out i (by omega) (.inl (by omega)), hm.out j (by omega) (.inl hja)]
      exact hA.srt i j (Nat.zero_le _) hij hja he
    · have : 2 * bs * q ≤ i := by
        rcases Nat.lt_or_ge i (2 * bs * q) with h | h
        · rw [dd j (by omega) (by omega)] at he
          have := (Nat.div_lt_iff_lt_mul (show 0 < 2 * bs by omega)).2 (show i < q * (2 * bs) by rw [Nat.mul_comm]; exact h)
          omega
        · exact h
      exact hs i j this hij hj
  · rw [hm.out i (by omega) (.inr g1)]
    exact hC.tag i (by omega) g2
  · rw [hm.out i (by omega) (.inr g1), hm.out j (by omega) (.inr (by omega))]
    exact hC.srt i j (by omega) g2 g3 g4

theorem pass_spec (hS : SWO lt) (n bs : Nat) (h0 : 0 < bs) : ∀ (k q : Nat) (d : Array α), 2 * bs * q ≤ n → d.size = n → n - 2 * bs * q < k → Chunk lt τ (2 * bs) 0 (2 * bs * q) d → Chunk lt τ bs (2 * bs * q) n d →
    Chunk lt τ (2 * bs) 0 n (pass lt n bs k (2 * bs * q) d) ∧ (pass lt n bs k (2 * bs * q) d).size = n ∧ (pass lt n bs k (2 * bs * q) d).toList.Perm d.toList
  | 0, q, d, hq, hn, hk, hA, hC => by omega
  | k + 1, q, d, hq, hn, hk, hA, hC => by
    unfold pass
    by_cases hc : 2 * bs * q + 2 * bs ≤ n
    · rw [if_pos hc]
      obtain ⟨h1, h2, h3, h4⟩ := chunk_step hS n bs q (2 * bs * q + 2 * bs) d hn h0 (by omega) (Nat.le_refl _) hc hA hC
      have e : 2 * bs * q + 2 * bs = 2 * bs * (q + 1) := by rw [Nat.mul_add, Nat.mul_one]
      have hkk : n - 2 * bs * (q + 1) < k := by rw [← e]; omega
      rw [e] at *
      obtain ⟨g1, g2, g3⟩ := pass_spec hS n bs h0 k (q + 1) _ hc h3 hkk h1 h2
      exact ⟨g1, g2, g3.trans h4⟩
    · rw [if_neg hc]
      by_cases hc2 : 2 * bs * q + bs < n
      · rw [if_pos hc2]
        obtain ⟨h1, h2, h3, h4⟩ := chunk_step hS n bs q n d hn h0 hc2 (by omega) (Nat.le_refl _) hA hC
        exact ⟨h1, h3, h4⟩
      · rw [if_neg hc2]
        have dl : ∀ i, 2 * bs * q ≤ i → i < 2 * bs * q + bs → i / bs = 2 * q := fun i h h' => div_q (by rw [← Nat.mul_assoc, Nat.mul_comm bs 2]; exact h) (by rw [← Nat.mul_assoc, Nat.mul_comm bs 2]; exact h')
        refine ⟨⟨fun i _ hi => ?_, fun i j _ hij hj he => ?_⟩, hn, List.Perm.refl _⟩
        · by_cases hia : i < 2 * bs * q
          · exact hA.tag i (Nat.zero_le _) hia
          · rw [show 2 * bs = bs * 2 from Nat.mul_comm _ _, ← Nat.div_div_eq_div_mul, ← Nat.div_div_eq_div_mul, hC.tag i (by omega) hi]
        · by_cases hja : j < 2 * bs * q
          · exact hA.srt i j (Nat.zero_le _) hij hja he
          · have : 2 * bs * q ≤ i := by
              rcases Nat.lt_or_ge i (2 * bs * q) with h | h
              · rw [div_q (m := 2 * bs) (q := q) (i := j) (by omega) (by omega)] at he
                have := (Nat.div_lt_iff_lt_mul (show 0 < 2 * bs by omega)).2 (show i < q * (2 * bs) by rw [Nat.mul_comm]; exact h)
                omega
              · exact h
            exact hC.srt i j this hij hj (by rw [dl i this (by omega), dl j (by omega) (by omega)])
theorem merges_spec (hS : SWO lt) (n : Nat) : ∀ (k bs : Nat) (d : Array α), 0 < bs → d.size = n → n - bs ≤ k → Chunk lt τ bs 0 n d →
    (∀ i j, i < j → j < n → Le lt τ (merges lt n k bs d)[i]! (merges lt n k bs d)[j]!) ∧ (merges lt n k bs d).size = n ∧ (merges lt n k bs d).toList.Perm d.toList
  | 0, bs, d, h0, hn, hk, hC => by
    unfold merges
    exact ⟨fun i j hij hj => hC.srt i j (Nat.zero_le _) hij hj (by rw [Nat.div_eq_of_lt (by omega), Nat.div_eq_of_lt (by omega)]), hn, List.Perm.refl _⟩
  | k + 1, bs, d, h0, hn, hk, hC => by
    unfold merges
    by_cases hc : bs < n
    · rw [if_pos hc]
      obtain ⟨h1, h2, h3⟩ := pass_spec hS n bs h0 (n + 1) 0 d (by simp) hn (by omega) ⟨fun i _ h => by simp at h, fun i j _ _ h => by simp at h⟩ hC
      rw [Nat.mul_zero] at h1 h2 h3
      obtain ⟨g1, g2, g3⟩ := merges_spec hS n k (bs * 2) _ (by omega) h2 (by omega) (by rw [Nat.mul_comm bs 2]; exact h1)
      exact ⟨g1, g2, g3.trans h3⟩
    · rw [if_neg hc]
      exact ⟨fun i j hij hj => hC.srt i j (Nat.zero_le _) hij hj (by rw [Nat.div_eq_of_lt (by omega), Nat.div_eq_of_lt (by omega)]), hn, List.Perm.refl _⟩
/-- Where the tags are the places, the sort is a permutation in which ties stand as they stood. -/
theorem stable_spec (hS : SWO lt) (d : Array α) (ht : ∀ i, i < d.size → τ d[i]! = i) : (stable lt d).toList.Perm d.toList ∧ (stable lt d).toList.Pairwise (Le lt τ) := by
  obtain ⟨h1, h2, h3⟩ := blocks_spec (τ := τ) hS d.size d.size 0 d (by simp) rfl (by omega) ⟨fun i _ h => by simp at h, fun i j _ _ h => by simp at h⟩ (fun i _ h => ht i h)
  rw [Nat.mul_zero] at h1 h2 h3
  obtain ⟨g1, g2, g3⟩ := merges_spec hS d.size d.size 20 _ (by omega) h2 (by omega) h1
  refine ⟨g3.trans h3, List.pairwise_iff_getElem.2 fun i j hi hj hij => ?_⟩
  have := g1 i j hij (by rw [← g2]; unfold stable at hj; simpa using hj)
  unfold stable at hi hj ⊢
  rw [← at_idx _ i hi, ← at_idx _ j hj]
  exact this
end Go.Proofs.Ytcgocdhffcnleaa.XSt
