/- Parts of the proof of the law's row, put together: see the theorems' own lines. -/
import Derived.Sort.LotA
/- slices.SortStableFunc after its Go text, as functions over an array and a 'less' (blocks of twenty sorted by insertion, symMerge by rotations), and that it sorts stably: elements bear tags, ties go by tag. Plain lists and arrays: no program in sight. -/
set_option linter.unusedVariables false
set_option linter.unusedSimpArgs false
set_option linter.unusedSectionVars false
namespace Go.Proofs.Ytcgocdhffcnleaa.XSt
open Go.Sort
variable {α : Type} [Inhabited α]

/-! ### the functions -/
def swapRange : Nat → Nat → Nat → Array α → Array α
  | _, _, 0, d => d
  | a, b, n + 1, d => swapRange (a + 1) (b + 1) n (swp d a b)
def rot (m : Nat) : Nat → Nat → Nat → Array α → Array α
  | 0, _, _, d => d
  | k + 1, i, j, d => if i = j then swapRange (m - i) m i d else if j < i then rot m k (i - j) j (swapRange (m - i) m j d) else rot m k i (j - i) (swapRange (m - i) (m + j - i) i d)
def bsearch (p : Nat → Bool) : Nat → Nat → Nat → Nat
  | 0, i, _ => i
  | k + 1, i, j => if i < j then (if p ((i + j) / 2) = true then bsearch p k ((i + j) / 2 + 1) j else bsearch p k i ((i + j) / 2)) else i
def shUp : Nat → Nat → Array α → Array α
  | 0, _, d => d
  | n + 1, k, d => shUp n (k + 1) (swp d k (k + 1))
def shDn : Nat → Nat → Array α → Array α
  | 0, _, d => d
  | n + 1, k, d => shDn n (k - 1) (swp d k (k - 1))
def smStart (a m b : Nat) : Nat := if (a + b) / 2 < m then (a + b) / 2 + m - b else a
def smR (a m b : Nat) : Nat := if (a + b) / 2 < m then (a + b) / 2 else m
def smS (lt : α → α → Bool) (a m b : Nat) (d : Array α) : Nat :=
  bsearch (fun c => !lt d[(a + b) / 2 + m - 1 - c]! d[c]!) (smR a m b - smStart a m b) (smStart a m b) (smR a m b)
def symMerge (lt : α → α → Bool) : Nat → Nat → Nat → Nat → Array α → Array α
  | 0, _, _, _, d => d
  | f + 1, a, m, b, d =>
    if m - a = 1 then shUp (bsearch (fun h => lt d[h]! d[a]!) (b - m) m b - 1 - a) a d
    else if b - m = 1 then shDn (m - bsearch (fun h => !lt d[m]! d[h]!) (m - a) a m) m d
    else
      let mid := (a + b) / 2
      let s := smS lt a m b d
      let e := mid + m - s
      let d1 := if s < m ∧ m < e then rot m (m - s + (e - m)) (m - s) (e - m) d else d
      let d2 := if a < s ∧ s < mid then symMerge lt f a s mid d1 else d1
      if mid < e ∧ e < b then symMerge lt f mid e b d2 else d2
def blocks (lt : α → α → Bool) (n : Nat) : Nat → Nat → Array α → Array α
  | 0, a, d => insertionSort lt d a n
  | k + 1, a, d => if a + 20 ≤ n then blocks lt n k (a + 20) (insertionSort lt d a (a + 20)) else insertionSort lt d a n
def pass (lt : α → α → Bool) (n bs : Nat) : Nat → Nat → Array α → Array α
  | 0, _, d => d
  | k + 1, a, d => if a + 2 * bs ≤ n then pass lt n bs k (a + 2 * bs) (symMerge lt n a (a + bs) (a + 2 * bs) d) else if a + bs < n then symMerge lt n a (a + bs) n d else d
def merges (lt : α → α → Bool) (n : Nat) : Nat → Nat → Array α → Array α
  | 0, _, d => d
  | k + 1, bs, d => if bs < n then merges lt n k (bs * 2) (pass lt n bs (n + 1) 0 d) else d
def stable (lt : α → α → Bool) (d : Array α) : Array α := merges lt d.size d.size 20 (blocks lt d.size d.size 0 d)

/-! ### sizes -/
/-! ### lists -/
/-! ### the search -/
/-! ### the order with tags -/
section
variable (lt : α → α → Bool) (τ : α → Nat)
/-- Ties go by tag. -/
def ltT (x y : α) : Bool := lt x y || (!lt y x && decide (τ x < τ y))
def Le (x y : α) : Prop := ltT lt τ y x = false
end
variable {lt : α → α → Bool} {τ : α → Nat}
theorem le_iff (x y : α) : Le lt τ x y ↔ lt y x = false ∧ (lt x y = true ∨ τ x ≤ τ y) := by
  unfold Le ltT
  cases h1 : lt y x <;> cases h2 : lt x y <;> simp [h1, h2]
theorem swoT (hS : SWO lt) : SWO (ltT lt τ) where
  irrefl := fun x => by simp [ltT, hS.irrefl]
  trans := fun x y z h1 h2 => by
    unfold ltT at h1 h2 ⊢
    simp only [Bool.or_eq_true, Bool.and_eq_true, Bool.not_eq_true', decide_eq_true_eq] at h1 h2 ⊢
    rcases h1 with h1 | ⟨h1, t1⟩
    · rcases h2 with h2 | ⟨h2, t2⟩
      · exact .inl (hS.trans _ _ _ h1 h2)
      · left
        cases h : lt x z
        · have := hS.ntrans x z y h h2
          rw [this] at h1
          cases h1
        · rfl
    · rcases h2 with h2 | ⟨h2, t2⟩
      · left
        cases h : lt x z
        · have := hS.ntrans y x z h1 h
          rw [this] at h2
          cases h2
        · rfl
      · by_cases h : lt x z = true
        · exact .inl h
        · exact .inr ⟨hS.ntrans z y x h2 h1, by omega⟩
  ntrans := fun x y z h1 h2 => by
    have a1 : Le lt τ y x := h1
    have a2 : Le lt τ z y := h2
    show Le lt τ z x
    rw [le_iff] at *
    refine ⟨hS.ntrans x y z a1.1 a2.1, ?_⟩
    rcases a1.2 with b1 | b1
    · left
      cases h : lt z x
      · have := hS.ntrans y z x a2.1 h
        rw [this] at b1
        cases b1
      · rfl
    · rcases a2.2 with b2 | b2
      · left
        cases h : lt z x
        · have := hS.ntrans z x y h a1.1
          rw [this] at b2
          cases b2
        · rfl
      · exact .inr (by omega)
theorem le_trans (hS : SWO lt) {x y z : α} (h1 : Le lt τ x y) (h2 : Le lt τ y z) : Le lt τ x z := (swoT hS).ntrans z y x h2 h1
theorem le_refl (hS : SWO lt) (x : α) : Le lt τ x x := (swoT hS).irrefl x
/-! ### symMerge -/
/-! ### blocks of twenty -/
/-- d' is d with the places from a up to b moved among themselves. -/
structure Moved (a b : Nat) (d d' : Array α) : Prop where
  size : d'.size = d.size
  out : ∀ i, i < d.size → i < a ∨ b ≤ i → d'[i]! = d[i]!
  inn : ∀ i, a ≤ i → i < b → ∃ k, a ≤ k ∧ k < b ∧ d'[i]! = d[k]!
  perm : d'.toList.Perm d.toList
theorem Moved.of (d d' : Array α) (a b : Nat) (hb : b ≤ d.size) (h : PermIn a b d d') : Moved a b d d' where
  size := h.1
  out := fun i _ hi => h.2.1 i hi
  inn := fun i h1 h2 => permIn_all d d' a b (fun x => ∃ k, a ≤ k ∧ k < b ∧ x = d[k]!) hb h (fun i h1 h2 => ⟨i, h1, h2, rfl⟩) i h1 h2
  perm := by
    have := (permIn_mono d d' a b 0 d.size (Nat.zero_le _) hb (Nat.le_refl _) h).2.2
    rw [← h.1] at this
    have e : (d'.extract 0 d'.size) = d' := Array.extract_size
    rw [e, h.1] at this
    rwa [show d.extract 0 d.size = d from Array.extract_size] at this

/-- The tags of a stretch lie in their chunks, and each chunk is sorted. -/
structure Chunk (lt : α → α → Bool) (τ : α → Nat) (bs lo hi : Nat) (d : Array α) : Prop where
  tag : ∀ i, lo ≤ i → i < hi → τ d[i]! / bs = i / bs
  srt : ∀ i j, lo ≤ i → i < j → j < hi → i / bs = j / bs → Le lt τ d[i]! d[j]!
/-! ### chunks go together by twos -/
end Go.Proofs.Ytcgocdhffcnleaa.XSt
