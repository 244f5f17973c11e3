/- Parts of the proof of the law's row, put together: see the theorems' own lines. -/
import Derived.Test.YtcgocdhffcnleaaVHeadCutsad
import Derived.Test.YtcgocdhffcnleaaVHeadCutsam
/- The order of labels: by the bytes of name and value, then by how many there are. Plain lists: no program in sight. -/
set_option linter.unusedVariables false
set_option linter.unusedSimpArgs false
namespace Go.Proofs.Ytcgocdhffcnleaa.XLab
open Go Go.Proofs.Ytcgocdhffcnleaa.XSer
theorem bl_irr : ∀ a : List UInt8, Op.bytesLess a a = false
  | [] => rfl
  | x :: a => by
    have h := bl_irr a
    simp [Op.bytesLess, h]
theorem bl_tr : ∀ a b c : List UInt8, Op.bytesLess a b = true → Op.bytesLess b c = true → Op.bytesLess a c = true
  | _, [], _, h, _ => by simp [Op.bytesLess] at h
  | _, _ :: _, [], _, h => by simp [Op.bytesLess] at h
  | [], _ :: _, _ :: _, _, _ => by simp [Op.bytesLess]
  | x :: a, y :: b, z :: c, h1, h2 => by
    simp only [Op.bytesLess, Bool.or_eq_true, Bool.and_eq_true, decide_eq_true_eq, beq_iff_eq] at h1 h2 ⊢
    rcases h1 with h1 | ⟨rfl, h1⟩
    · rcases h2 with h2 | ⟨rfl, h2⟩
      · exact .inl (UInt8.lt_trans h1 h2)
      · exact .inl h1
    · rcases h2 with h2 | ⟨rfl, h2⟩
      · exact .inl h2
      · exact .inr ⟨rfl, bl_tr _ _ _ h1 h2⟩
theorem bl_tot : ∀ a b : List UInt8, Op.bytesLess a b = false → Op.bytesLess b a = false → a = b
  | [], [], _, _ => rfl
  | [], _ :: _, h, _ => by simp [Op.bytesLess] at h
  | _ :: _, [], _, h => by simp [Op.bytesLess] at h
  | x :: a, y :: b, h1, h2 => by
    simp only [Op.bytesLess, Bool.or_eq_false_iff, Bool.and_eq_false_iff, decide_eq_false_iff_not] at h1 h2
    have e : x = y := by
      rcases UInt8.lt_or_eq_of_le (UInt8.not_lt.1 h2.1) with h | h
      · exact absurd h h1.1
      · exact h
    subst e
    rw [bl_tot a b (by simpa using h1.2) (by simpa using h2.2)]
/-- Strings compared. -/
def sc (a b : List UInt8) : Int := if Op.bytesLess a b = true then -1 else if Op.bytesLess b a = true then 1 else 0
theorem sc_zero (a b : List UInt8) : sc a b = 0 ↔ a = b := by
  unfold sc
  constructor
  · intro h
    split at h
    · omega
    · rename_i h1
      split at h
      · omega
      · rename_i h2
        exact bl_tot a b (by simpa using h1) (by simpa using h2)
  · rintro rfl
    simp [bl_irr]
theorem sc_anti (a b : List UInt8) : sc a b < 0 ↔ 0 < sc b a := by
  unfold sc
  cases h1 : Op.bytesLess a b <;> cases h2 : Op.bytesLess b a <;> simp
  exact absurd (bl_tr _ _ _ h1 h2) (by simp [bl_irr])
theorem sc_neg (a b : List UInt8) : sc a b < 0 ↔ Op.bytesLess a b = true := by
  unfold sc
  cases h1 : Op.bytesLess a b <;> cases h2 : Op.bytesLess b a <;> simp
theorem sc_tr (a b c : List UInt8) (h1 : sc a b < 0) (h2 : sc b c < 0) : sc a c < 0 := (sc_neg _ _).2 (bl_tr _ _ _ ((sc_neg _ _).1 h1) ((sc_neg _ _).1 h2))
/-- Rows of labels compared (name, value). -/
def lc : List (List UInt8 × List UInt8) → List (List UInt8 × List UInt8) → Int
  | [], [] => 0
  | [], _ :: _ => -1
  | _ :: _, [] => 1
  | x :: a, y :: b => if sc x.1 y.1 ≠ 0 then sc x.1 y.1 else if sc x.2 y.2 ≠ 0 then sc x.2 y.2 else lc a b
theorem lc_zero : ∀ a b, lc a b = 0 ↔ a = b
  | [], [] => by simp [lc]
  | [], _ :: _ => by simp [lc]
  | _ :: _, [] => by simp [lc]
  | (n, v) :: a, (n', v') :: b => by
    have ih := lc_zero a b
    have z1 := sc_zero n n'
    have z2 := sc_zero v v'
    simp only [lc, List.cons.injEq, Prod.mk.injEq]
    split
    · rename_i h; constructor
      · intro e; exact absurd e h
      · rintro ⟨⟨e, _⟩, _⟩; exact absurd (z1.2 e) h
    · rename_i h
      have e1 : n = n' := z1.1 (by simpa using h)
      split
      · rename_i h2; constructor
        · intro e; exact absurd e h2
        · rintro ⟨⟨_, e⟩, _⟩; exact absurd (z2.2 e) h2
      · rename_i h2
        have e2 : v = v' := z2.1 (by simpa using h2)
        rw [ih]
        simp [e1, e2]
theorem lc_anti : ∀ a b, lc a b < 0 ↔ 0 < lc b a
  | [], [] => by simp [lc]
  | [], _ :: _ => by simp [lc]
  | _ :: _, [] => by simp [lc]
  | (n, v) :: a, (n', v') :: b => by
    have ih := lc_anti a b
    have z1 := sc_anti n n'
    have z2 := sc_anti v v'
    have z1' := sc_anti n' n
    have z2' := sc_anti v' v
    simp only [lc]
    split <;> split <;> (try split) <;> (try split) <;> omega
theorem lc_cons (x y : List UInt8 × List UInt8) (a b : List (List UInt8 × List UInt8)) : lc (x :: a) (y :: b) < 0 ↔ sc x.1 y.1 < 0 ∨ (x.1 = y.1 ∧ (sc x.2 y.2 < 0 ∨ (x.2 = y.2 ∧ lc a b < 0))) := by
  have z1 := sc_zero x.1 y.1
  have z2 := sc_zero x.2 y.2
  simp only [lc]
  by_cases h1 : x.1 = y.1
  · have e1 := z1.2 h1
    by_cases h2 : x.2 = y.2
    · have e2 := z2.2 h2
      simp [h1, h2, e1, e2, (sc_zero y.1 y.1).2 rfl, (sc_zero y.2 y.2).2 rfl]
    · have e2 : sc x.2 y.2 ≠ 0 := fun e => h2 (z2.1 e)
      simp [h1, h2, e2, (sc_zero y.1 y.1).2 rfl]
  · have e1 : sc x.1 y.1 ≠ 0 := fun e => h1 (z1.1 e)
    simp [h1, e1]
theorem lc_tr : ∀ a b c, lc a b < 0 → lc b c < 0 → lc a c < 0
  | [], [], _, h, _ => by simp [lc] at h
  | _ :: _, [], _, h, _ => by simp [lc] at h
  | _, _ :: _, [], _, h => by simp [lc] at h
  | [], _ :: _, _ :: _, _, _ => by simp [lc]
  | x :: a, y :: b, z :: c, h1, h2 => by
    rw [lc_cons] at h1 h2 ⊢
    have ih := lc_tr a b c
    rcases h1 with h1 | ⟨e1, h1⟩
    · rcases h2 with h2 | ⟨e2, h2⟩
      · exact .inl (sc_tr _ _ _ h1 h2)
      · exact .inl (e2 ▸ h1)
    · rcases h2 with h2 | ⟨e2, h2⟩
      · exact .inl (e1.symm ▸ h2)
      · refine .inr ⟨e1.trans e2, ?_⟩
        rcases h1 with h1 | ⟨f1, h1⟩
        · rcases h2 with h2 | ⟨f2, h2⟩
          · exact .inl (sc_tr _ _ _ h1 h2)
          · exact .inl (f2 ▸ h1)
        · rcases h2 with h2 | ⟨f2, h2⟩
          · exact .inl (f1.symm ▸ h2)
          · exact .inr ⟨f1.trans f2, ih h1 h2⟩
end Go.Proofs.Ytcgocdhffcnleaa.XLab
