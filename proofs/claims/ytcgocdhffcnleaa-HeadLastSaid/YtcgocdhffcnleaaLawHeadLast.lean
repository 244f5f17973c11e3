/- The law HeadLast: for every input that the row speaks of the call returns true, and each argument reads afterwards as it read before; no condition beside the row's own. -/
import Derived.Test.YtcgocdhffcnleaaRows
import Derived.Test.YtcgocdhffcnleaaXHdT
import Derived.Test.YtcgocdhffcnleaaXOpen
import Derived.WalkKit
import Derived.ProofKit
import Derived.OpenShut
import Derived.ShutString
import Derived.ChangeOld
import Derived.Below
import Derived.SizedLaws
import Derived.Test.YtcgocdhffcnleaaWSized
namespace Go.Proofs.Ytcgocdhffcnleaa.headLast
open Go.ChangeShapes Go.WideShapes Go.ChangeAt Go.RowKit
open Go.ChangeMaps (open_string shut_string)
open Go.Proofs.Ytcgocdhffcnleaa Go.Proofs.YtcgocdhffcnleaaW.PrintWords Go.Proofs.Ytcgocdhffcnleaa.PHead
set_option linter.unusedVariables false
theorem own : ownKnob Try.prog.godebug = none := by kernel_rfl
theorem laidOut : laidOutB Try.prog = true := by kernel_rfl
set_option maxRecDepth 100000 in
theorem lifted (os : Os) (started : os.Started) (H : Type) (enc : TypeId × Value → H) :
    ReturnsInHanded {} Try.checked os 5 .any (Rows.headLastSpec.pre6 enc Try.prog Try.f5 Rows.headLastRow.domain false) (Rows.headLastSpec.post enc Try.prog Try.f5 false true false false) := by
  refine returnsInHanded_of_change_sized (C := Try.checked) own started (by kernel_rfl) Try.func5
    (ChangeSpec.witness6 (enc := enc) (C := Try.checked) false ⟨#[], #[.slice none 0 0, .slice none 0 0], []⟩ 8 (by kernel_rfl) (by kernel_rfl) (by kernel_rfl) (by kernel_rfl)) ?_
  intro W base args ds gs before hval0 hW hcnd hsz0 _
  have hsz : (DataW.weightsEach Try.prog (Try.f5.params.toList ++ Rows.headLastSpec.plain.varTypes Try.prog) (ds ++ gs)).all (· ≤ reachBytes) = true := hsz0
  have hval : ∀ (j : Nat) t v, Try.f5.params[j]? = some t → args[j]? = some v → Value.okWide Try.prog W .any base t v := hval0
  have hW' := hW
  obtain ⟨p, q, hA0, hV, rfl, hfz, hnd⟩ := hW
  have hA : DataW.TrodAll enc Try.prog W 0 (fun _ => true) true Try.f5.params.toList args.toList ds p := hA0
  rw [Try.params5] at hA hval hsz
  obtain ⟨v0, vs0, d0, ds0, p0, q0, hargs, rfl, rfl, h0, r0⟩ := trodAll_cons hA
  obtain ⟨v1, vs1, d1, ds1, p1, q1, rfl, rfl, rfl, h1, r1⟩ := trodAll_cons r0
  obtain ⟨rfl, rfl, rfl⟩ := trodAll_nil r1
  obtain rfl : args = #[v0, v1] := by cases args; simp_all
  obtain ⟨rfl, rfl⟩ := trodVars_none hV
  obtain ⟨a0, len0, cap0, rfl⟩ := okWide_slice Try.underlying32 (hval 0 32 v0 rfl rfl)
  have k0 := h0
  have lt0 : ∀ x ∈ p0, x.block < W.heap.size := by obtain ⟨m, hm⟩ := k0; exact DataW.trod_lt m _ _ _ hm
  obtain ⟨fuel0, hf0⟩ := h0
  obtain ⟨l0, ⟨A0, c0, e0, hc0, hr0⟩, g0⟩ := (XO.opn_slice (q := 3) Try.underlying32 (by kernel_rfl) (XO.opn_int Try.underlying3)) H enc _ _ _ hf0
  obtain ⟨rfl, rfl, rfl⟩ : A0 = a0 ∧ len0 = l0.length ∧ c0 = cap0 := by
    have z := (List.cons.inj (show [Value.slice a0 len0 cap0] = [Value.slice A0 l0.length c0] from e0)).1
    injection z with z1 z2 z3
    exact ⟨z1.symm, z2, z3.symm⟩
  obtain ⟨a1, len1, cap1, rfl⟩ := okWide_slice Try.underlying32 (hval 1 32 v1 rfl rfl)
  have k1 := h1
  have lt1 : ∀ x ∈ p1, x.block < W.heap.size := by obtain ⟨m, hm⟩ := k1; exact DataW.trod_lt m _ _ _ hm
  obtain ⟨fuel1, hf1⟩ := h1
  obtain ⟨l1, ⟨A1, c1, e1, hc1, hr1⟩, g1⟩ := (XO.opn_slice (q := 3) Try.underlying32 (by kernel_rfl) (XO.opn_int Try.underlying3)) H enc _ _ _ hf1
  obtain ⟨rfl, rfl, rfl⟩ : A1 = a1 ∧ len1 = l1.length ∧ c1 = cap1 := by
    have z := (List.cons.inj (show [Value.slice a1 len1 cap1] = [Value.slice A1 l1.length c1] from e1)).1
    injection z with z1 z2 z3
    exact ⟨z1.symm, z2, z3.symm⟩
  clear hA0 hval0 hsz0 hsz
  refine (HeadLast.calls A0 A1 c0 c1 l0 l1 W hr0 hr1).mono fun e W' ⟨he, bel⟩ => ?_
  subst he
  exact ⟨_, rfl, _, _, _, [], _, [], hW', trodAll_mk1 (shut_bool Try.underlying4 _), (trodAll_cons_mk (Below.trod laidOut (by kernel_rfl) (of_decide_eq_true (by kernel_rfl)) k0 bel lt0) (trodAll_cons_mk (Below.trod laidOut (by kernel_rfl) (of_decide_eq_true (by kernel_rfl)) k1 bel lt1) trodAll_mk0)), rfl, bel.frame _, fun h => by cases h⟩
theorem over : Rows.headLastRow.holds Try.pinned (OpenSpec.ofChange Rows.headLastSpec) :=
  OpenClaim.holds_of_wide 5 Try.f5 rfl rfl rfl rfl rfl rfl rfl ⟨rfl, rfl, rfl, rfl, rfl⟩ rfl rfl rfl rfl rfl (by kernel_rfl) Try.func5 (by kernel_rfl)
    (of_decide_eq_true (by kernel_rfl)) (by unfold Func.isWrapper; first | (rw [if_pos (by decide +kernel)]; kernel_rfl) | (rw [if_neg (by decide +kernel)]; exact ⟨rfl, rfl⟩))
    (fun os started H enc _ => lifted os started H enc)
theorem proved : Rows.HeadLastSaid := over
#print axioms proved
end Go.Proofs.Ytcgocdhffcnleaa.headLast
namespace Go.Proofs.Ytcgocdhffcnleaa
/-- The row, under a short name, for the claim. -/
theorem headLast_holds : Rows.HeadLastSaid := headLast.proved
end Go.Proofs.Ytcgocdhffcnleaa
