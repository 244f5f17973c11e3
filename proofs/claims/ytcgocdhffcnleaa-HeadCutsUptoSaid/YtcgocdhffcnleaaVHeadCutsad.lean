/- Parts of the proof of the law's row, put together: see the theorems' own lines. -/
import Derived.Test.YtcgocdhffcnleaaProg
import Derived.Test.YtcgocdhffcnleaaVHeadCutsac
import Derived.Test.YtcgocdhffcnleaaVHeadCutsaa
import Derived.Test.YtcgocdhffcnleaaVHeadCutsab
import Derived.WalkKit
import Derived.Lib.SlBytesConst
import Derived.Lib.Hide
import Derived.WalkSpells
import Derived.WalkMore
import Derived.ScopeJumps
/- Small lemmas that the walks of this seat use: the greatest number of an unsigned kind, and that it has no sign; a block that is known whole reads as a row of numbers. -/
namespace Go.Proofs.Ytcgocdhffcnleaa.XB
open Go Go.RowKit Go.Proofs.YtcgocdhffcnleaaW.PrintWords Go.Proofs.YtcgocdhffcnleaaW.PrintLast Go.Proofs.YtcgocdhffcnleaaW.PrintMore
theorem sg_u8 : IntKind.u8.signed = false := rfl
theorem sg_u16 : IntKind.u16.signed = false := rfl
theorem sg_u32 : IntKind.u32.signed = false := rfl
theorem sg_u64 : IntKind.u64.signed = false := rfl
theorem mx_u8 : IntKind.u8.max = 255 := rfl
theorem mx_u16 : IntKind.u16.max = 65535 := rfl
theorem mx_u32 : IntKind.u32.max = 4294967295 := rfl
theorem mx_u64 : IntKind.u64.max = 18446744073709551615 := rfl

section
variable {P : Program} {α : Type} {d : Kd α} {e base n c c' : Nat} {ok : Nat → Prop} {W : World} {A : Option Addr} {xs : List α}
/-- A cut with a capacity of its own. -/
theorem cut_to_max (t e : TypeId) (kh km : IntKind) {i : TypeInfo} (ht : P.underlying t = some (.slice e)) (hi : P.info? e = some i) (A : Option Addr) (n c : Nat) (j m : Int) (h0 : 0 ≤ j) (hjm : j ≤ m) (hm : m ≤ n) (hc : n ≤ c) :
    ∀ W : World, (Instr.slice t (.slice A n c) none (some (.int kh j)) (some (.int km m))).run P W = .ok (.slice A j.toNat m.toNat) W := by
  intro W
  have hel : P.elem t = e := by simp [Program.elem, ht]
  have hu : P.underlying t = some (.slice (P.elem t)) := by rw [hel]; exact ht
  have ha : (A.map fun x => x.add 0) = A := by cases A <;> simp [Addr.add]
  rw [run_slice_hm W t A n c hu kh km j m h0 hjm (by omega), hel]
  simp [sizeOf, typeInfo, hi, sliced, Result.andThen, ha]
end
section
variable {P : Program} {ops : Array Oper} {rest : List Oper} {o : Oper} {a : Act} {Q : Exit → Act → World → Prop} {W : World}
end
end Go.Proofs.Ytcgocdhffcnleaa.XB

/- Strings compared: the model's "greater" and "not greater" told by "less" the other way about. -/
set_option linter.unusedSimpArgs false
namespace Go.Proofs.Ytcgocdhffcnleaa.XStr
open Go
theorem bl_irr : ∀ a : List UInt8, Op.bytesLess a a = false
  | [] => rfl
  | x :: a => by
    have h := bl_irr a
    simp [Op.bytesLess, h]
theorem bl_tr : ∀ a b c : List UInt8, Op.bytesLess a b = true → Op.bytesLess b c = true → Op.bytesLess a c = true
  | _, [], _, h, _ => by simp [Op.bytesLess] at h
  | _, _ :: _, [], _, h => by simp [Op.bytesLess] at h
  | [], _ :: _, _ :: _, _, _ => by simp [Op.bytesLess]
  | x :: a, y :: b, z :: c, h1, h2 => by
    simp only [Op.bytesLess, Bool.or_eq_true, Bool.and_eq_true, decide_eq_true_eq, beq_iff_eq] at h1 h2 ⊢
    rcases h1 with h1 | ⟨rfl, h1⟩
    · rcases h2 with h2 | ⟨rfl, h2⟩
      · exact .inl (UInt8.lt_trans h1 h2)
      · exact .inl h1
    · rcases h2 with h2 | ⟨rfl, h2⟩
      · exact .inl h2
      · exact .inr ⟨rfl, bl_tr _ _ _ h1 h2⟩
theorem bl_tot : ∀ a b : List UInt8, Op.bytesLess a b = false → Op.bytesLess b a = false → a = b
  | [], [], _, _ => rfl
  | [], _ :: _, h, _ => by simp [Op.bytesLess] at h
  | _ :: _, [], _, h => by simp [Op.bytesLess] at h
  | x :: a, y :: b, h1, h2 => by
    simp only [Op.bytesLess, Bool.or_eq_false_iff, Bool.and_eq_false_iff, decide_eq_false_iff_not] at h1 h2
    have e : x = y := by
      rcases UInt8.lt_or_eq_of_le (UInt8.not_lt.1 h2.1) with h | h
      · exact absurd h h1.1
      · exact h
    subst e
    rw [bl_tot a b (by simpa using h1.2) (by simpa using h2.2)]
theorem str_gtr (t : TypeId) (a b : ByteArray) : binOp .gtr t (.string a) (.string b) = pure (.bool (Op.bytesLess b.toList a.toList)) := by
  have e : (!(Op.bytesLess a.toList b.toList || a.toList == b.toList)) = Op.bytesLess b.toList a.toList := by
    cases h1 : Op.bytesLess a.toList b.toList with
    | true =>
      cases h2 : Op.bytesLess b.toList a.toList with
      | true => have h3 := bl_tr _ _ _ h1 h2; rw [bl_irr] at h3; cases h3
      | false => simp
    | false =>
      cases h2 : Op.bytesLess b.toList a.toList with
      | true =>
        have hne : a.toList ≠ b.toList := fun e => by rw [e, bl_irr] at h2; cases h2
        simp [hne]
      | false =>
        have := bl_tot _ _ h1 h2
        simp [this]
  rw [← e]
  simp [binOp, Op.stringOp]
theorem str_leq (t : TypeId) (a b : ByteArray) : binOp .leq t (.string a) (.string b) = pure (.bool (!Op.bytesLess b.toList a.toList)) := by
  have e : (Op.bytesLess a.toList b.toList || a.toList == b.toList) = (!Op.bytesLess b.toList a.toList) := by
    cases h1 : Op.bytesLess a.toList b.toList with
    | true =>
      cases h2 : Op.bytesLess b.toList a.toList with
      | true => have h3 := bl_tr _ _ _ h1 h2; rw [bl_irr] at h3; cases h3
      | false => simp
    | false =>
      cases h2 : Op.bytesLess b.toList a.toList with
      | true =>
        have hne : a.toList ≠ b.toList := fun e => by rw [e, bl_irr] at h2; cases h2
        simp [hne]
      | false =>
        have := bl_tot _ _ h1 h2
        simp [this]
  rw [← e]
  simp [binOp, Op.stringOp]
end Go.Proofs.Ytcgocdhffcnleaa.XStr
