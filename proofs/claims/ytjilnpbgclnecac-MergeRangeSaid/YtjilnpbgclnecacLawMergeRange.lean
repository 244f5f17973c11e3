/- The law MergeRange: for every input that the row speaks of the call returns true, and each argument reads afterwards as it read before; no condition beside the row's own. -/
import Derived.Test.YtjilnpbgclnecacRows
import Derived.Test.YtjilnpbgclnecacPMergeRangex6
import Derived.Test.YtjilnpbgclnecacPureMergeRange
import Derived.Test.YtjilnpbgclnecacXReach
import Derived.WalkKit
import Derived.ProofKit
import Derived.OpenShut
import Derived.ShutString
import Derived.ChangeOld
import Derived.Below
import Derived.SizedLaws
import Derived.Test.YtjilnpbgclnecacWSized
namespace Go.Proofs.Ytjilnpbgclnecac.mergeRange
open Go.ChangeShapes Go.WideShapes Go.ChangeAt Go.RowKit
open Go.ChangeMaps (open_string shut_string)
open Go.Proofs.Ytjilnpbgclnecac Go.Proofs.Ytjilnpbgclnecac.PMergeRange Go.Proofs.YtjilnpbgclnecacW.PrintWords
set_option linter.unusedVariables false
theorem own : ownKnob Try.prog.godebug = none := by kernel_rfl
theorem laidOut : laidOutB Try.prog = true := by kernel_rfl
def IsRow (k : IntKind) (w : World) (a : Option Addr) (len cap : Nat) (zs : List Int) : Prop :=
  (a = none ∧ len = 0 ∧ cap = 0 ∧ zs = []) ∨
  ∃ x, a = some x ∧ len ≤ cap ∧ cap ≤ maxLen ∧ zs.length = cap ∧ (∀ i, i < zs.length → w.cell? (x.add i) = some (.int k (zs.getD i 0))) ∧ ∀ n ∈ zs, (Lit.int k n).wf = true
set_option maxRecDepth 100000 in
theorem lifted (os : Os) (started : os.Started) (H : Type) (enc : TypeId × Value → H) :
    ReturnsInHanded {} Try.checked os 9 .any (Rows.mergeRangeSpec.pre6 enc Try.prog Try.f9 Rows.mergeRangeRow.domain false) (Rows.mergeRangeSpec.post enc Try.prog Try.f9 false true false false) := by
  refine returnsInHanded_of_change_sized (C := Try.checked) own started (by kernel_rfl) Try.func9
    (ChangeSpec.witness6 (enc := enc) (C := Try.checked) false ⟨#[], #[.slice none 0 0, .int .i64 0, .int .i64 0, (.agg #[(.int .i64 0), (.int .i64 0)])], []⟩ 8 (by kernel_rfl) (by kernel_rfl) (by kernel_rfl) (by kernel_rfl)) ?_
  intro W base args ds gs before hval0 hW hcnd hsz0 _
  have hsz : (DataW.weightsEach Try.prog (Try.f9.params.toList ++ Rows.mergeRangeSpec.plain.varTypes Try.prog) (ds ++ gs)).all (· ≤ reachBytes) = true := hsz0
  have hval : ∀ (j : Nat) t v, Try.f9.params[j]? = some t → args[j]? = some v → Value.okWide Try.prog W .any base t v := hval0
  have hW' := hW
  obtain ⟨p, q, hA0, hV, rfl, hfz, hnd⟩ := hW
  have hA : DataW.TrodAll enc Try.prog W 0 (fun _ => true) true Try.f9.params.toList args.toList ds p := hA0
  rw [Try.params9] at hA hval hsz
  obtain ⟨v0, vs0, d0, ds0, p0, q0, hargs, rfl, rfl, h0, r0⟩ := trodAll_cons hA
  obtain ⟨v1, vs1, d1, ds1, p1, q1, rfl, rfl, rfl, h1, r1⟩ := trodAll_cons r0
  obtain ⟨v2, vs2, d2, ds2, p2, q2, rfl, rfl, rfl, h2, r2⟩ := trodAll_cons r1
  obtain ⟨v3, vs3, d3, ds3, p3, q3, rfl, rfl, rfl, h3, r3⟩ := trodAll_cons r2
  obtain ⟨rfl, rfl, rfl⟩ := trodAll_nil r3
  obtain rfl : args = #[v0, v1, v2, v3] := by cases args; simp_all
  obtain ⟨rfl, rfl⟩ := trodVars_none hV
  obtain ⟨a0, len0, cap0, rfl⟩ := okWide_slice Try.underlying60 (hval 0 60 v0 rfl rfl)
  have k0 := h0
  have lt0 : ∀ x ∈ p0, x.block < W.heap.size := by obtain ⟨m, hm⟩ := k0; exact DataW.trod_lt m _ _ _ hm
  obtain ⟨fuel0, hf0⟩ := h0
  obtain ⟨l0, ⟨A0, c0, e0, hc0, hr0⟩, g0⟩ := (XO.opw_slice (q := 54) (b := 16) Try.underlying60 (by kernel_rfl) (by kernel_rfl) (XO.opw_iso (fun x : S54 => (x.f0, x.f1)) (fun p => ⟨p.1, p.2⟩) (fun _ => rfl) (XO.opw_struct (n := 2) Try.underlying54 (by kernel_rfl) (XO.opwf_cons (c := 1) rfl (by kernel_rfl) (XO.opw_int Try.underlying3) (XO.opwf_one (c := 1) rfl (by kernel_rfl) rfl (XO.opw_int Try.underlying3)))))) H enc _ _ _ hf0 (fun n hn => of_decide_eq_true (List.all_eq_true.1 hsz _ (DataW.weights_mem_each (j := 0) (t := 60) rfl rfl n hn)))
  obtain ⟨rfl, rfl, rfl⟩ : A0 = a0 ∧ len0 = l0.length ∧ c0 = cap0 := by
    have z := (List.cons.inj (show [Value.slice a0 len0 cap0] = [Value.slice A0 l0.length c0] from e0)).1
    injection z with z1 z2 z3
    exact ⟨z1.symm, z2, z3.symm⟩
  obtain ⟨a1, rfl, rfl, rfl, w1⟩ := open_int Try.underlying3 (hval 1 3 v1 rfl rfl) h1
  obtain ⟨a2, rfl, rfl, rfl, w2⟩ := open_int Try.underlying3 (hval 2 3 v2 rfl rfl) h2
  obtain ⟨cs3, rfl, _⟩ := okWide_struct Try.underlying54 (hval 3 54 v3 rfl rfl)
  have k3 := h3
  have lt3 : ∀ x ∈ p3, x.block < W.heap.size := by obtain ⟨m, hm⟩ := k3; exact DataW.trod_lt m _ _ _ hm
  obtain ⟨fuel3, hf3⟩ := h3
  obtain ⟨⟨a3_0, a3_1⟩, ⟨_, _, e3, rfl, rfl⟩, ⟨g3_0, g3_1⟩⟩ := (XO.opw_struct (n := 2) Try.underlying54 (by kernel_rfl) (XO.opwf_cons (c := 1) rfl (by kernel_rfl) (XO.opw_int Try.underlying3) (XO.opwf_one (c := 1) rfl (by kernel_rfl) rfl (XO.opw_int Try.underlying3)))) H enc _ _ _ hf3 (fun n hn => of_decide_eq_true (List.all_eq_true.1 hsz _ (DataW.weights_mem_each (j := 3) (t := 54) rfl rfl n hn)))
  obtain rfl := Array.ext' (xs := cs3) (ys := #[.int .i64 a3_0, .int .i64 a3_1]) e3
  clear hA0 hval0 hsz0 hsz
  refine (PMergeRange.lysimeterlaw18_MergeRange.walk Pure.MergeRange A0 c0 l0 a1 a2 a3_0 a3_1 W hr0 hc0 g0 w1 w2 g3_0 g3_1).mono fun e W' ⟨he, bel⟩ => ?_
  subst he
  exact ⟨_, rfl, _, _, _, [], _, [], hW', trodAll_mk1 (shut_bool Try.underlying4 _), (trodAll_cons_mk (Below.trod laidOut (by kernel_rfl) (of_decide_eq_true (by kernel_rfl)) k0 bel lt0) (trodAll_cons_mk (shut_int Try.underlying3 w1) (trodAll_cons_mk (shut_int Try.underlying3 w2) (trodAll_cons_mk (Below.trod laidOut (by kernel_rfl) (of_decide_eq_true (by kernel_rfl)) k3 bel lt3) trodAll_mk0)))), rfl, bel.frame _, fun h => by cases h⟩
theorem over : Rows.mergeRangeRow.holds Try.pinned (OpenSpec.ofChange Rows.mergeRangeSpec) :=
  OpenClaim.holds_of_wide 9 Try.f9 rfl rfl rfl rfl rfl rfl rfl ⟨rfl, rfl, rfl, rfl, rfl⟩ rfl rfl rfl rfl rfl (by kernel_rfl) Try.func9 (by kernel_rfl)
    (of_decide_eq_true (by kernel_rfl)) (by unfold Func.isWrapper; first | (rw [if_pos (by decide +kernel)]; kernel_rfl) | (rw [if_neg (by decide +kernel)]; exact ⟨rfl, rfl⟩))
    (fun os started H enc _ => lifted os started H enc)
theorem proved : Rows.MergeRangeSaid := over
#print axioms proved
end Go.Proofs.Ytjilnpbgclnecac.mergeRange
namespace Go.Proofs.Ytjilnpbgclnecac
/-- The row, under a short name, for the claim. -/
theorem mergeRange_holds : Rows.MergeRangeSaid := mergeRange.proved
end Go.Proofs.Ytjilnpbgclnecac
