/- The law MergeSeries, in its form with a bound on the bulk of the arguments: for every such input that the row speaks of the call returns true, and each argument reads afterwards as it read before; no condition beside the row's own. -/
import Derived.Test.YtjilnpbgclnecacRows
import Derived.Test.YtjilnpbgclnecacPMergeSeriesx12
import Derived.Test.YtjilnpbgclnecacPureMergeSeries
import Derived.Test.YtjilnpbgclnecacXReach
import Derived.WalkKit
import Derived.ProofKit
import Derived.OpenShut
import Derived.ShutString
import Derived.ChangeOld
import Derived.Below
import Derived.SizedLaws
import Derived.Deep.CondSized
import Derived.Test.YtjilnpbgclnecacWSized
namespace Go.Proofs.Ytjilnpbgclnecac.mergeSeries
open Go.ChangeShapes Go.WideShapes Go.ChangeAt Go.RowKit
open Go.ChangeMaps (open_string shut_string)
open Go.Proofs.Ytjilnpbgclnecac Go.Proofs.Ytjilnpbgclnecac.PMergeSeries Go.Proofs.YtjilnpbgclnecacW.PrintWords
set_option linter.unusedVariables false
theorem own : ownKnob Try.prog.godebug = none := by kernel_rfl
theorem laidOut : laidOutB Try.prog = true := by kernel_rfl
def IsRow (k : IntKind) (w : World) (a : Option Addr) (len cap : Nat) (zs : List Int) : Prop :=
  (a = none ∧ len = 0 ∧ cap = 0 ∧ zs = []) ∨
  ∃ x, a = some x ∧ len ≤ cap ∧ cap ≤ maxLen ∧ zs.length = cap ∧ (∀ i, i < zs.length → w.cell? (x.add i) = some (.int k (zs.getD i 0))) ∧ ∀ n ∈ zs, (Lit.int k n).wf = true
set_option maxRecDepth 100000 in
theorem lifted (os : Os) (started : os.Started) (H : Type) (enc : TypeId × Value → H) (F : Stop.Interp) :
    ReturnsInHanded {} Try.checked os 10 .any ((Rows.OpenSpec.upto Rows.mergeSeriesSpec).pre6 enc Try.prog Try.f10 Rows.mergeSeriesUptoRow.domain false) (((Rows.OpenSpec.upto Rows.mergeSeriesSpec).at F).post enc Try.prog Try.f10 false true false false) := by
  refine returnsInHanded_of_cond_sized (C := Try.checked) (s := Rows.OpenSpec.upto Rows.mergeSeriesSpec) (k := Rows.uptoSmall) rfl own started (by kernel_rfl) Try.func10
    (OpenSpec.witness (enc := enc) (C := Try.checked) (s := Rows.OpenSpec.upto Rows.mergeSeriesSpec) (k := Rows.uptoSmall) rfl false ⟨#[], #[.slice none 0 0], []⟩ 8 (by kernel_rfl) (by kernel_rfl) (by kernel_rfl) (x := ([.nil], [], [])) (by kernel_rfl) rfl (by kernel_rfl)) ?_
  intro W base args ds gs before hval0 hW hcnd _ hsz0 _
  have hsz : (DataW.weightsEach Try.prog (Try.f10.params.toList ++ Rows.mergeSeriesSpec.plain.varTypes Try.prog) (ds ++ gs)).all (· ≤ reachBytes) = true := hsz0
  have hval : ∀ (j : Nat) t v, Try.f10.params[j]? = some t → args[j]? = some v → Value.okWide Try.prog W .any base t v := hval0
  have hW' := hW
  obtain ⟨p, q, hA0, hV, rfl, hfz, hnd⟩ := hW
  have hA : DataW.TrodAll enc Try.prog W 0 (fun _ => true) true Try.f10.params.toList args.toList ds p := hA0
  rw [Try.params10] at hA hval hsz
  obtain ⟨v0, vs0, d0, ds0, p0, q0, hargs, rfl, rfl, h0, r0⟩ := trodAll_cons hA
  obtain ⟨rfl, rfl, rfl⟩ := trodAll_nil r0
  obtain rfl : args = #[v0] := by cases args; simp_all
  obtain ⟨rfl, rfl⟩ := trodVars_none hV
  obtain ⟨a0, len0, cap0, rfl⟩ := okWide_slice Try.underlying74 (hval 0 74 v0 rfl rfl)
  have k0 := h0
  have lt0 : ∀ x ∈ p0, x.block < W.heap.size := by obtain ⟨m, hm⟩ := k0; exact DataW.trod_lt m _ _ _ hm
  obtain ⟨fuel0, hf0⟩ := h0
  obtain ⟨l0, ⟨A0, c0, e0, hc0, hr0⟩, g0⟩ := (XO.opw_slice (q := 76) (b := 24) Try.underlying74 (by kernel_rfl) (by kernel_rfl) (XO.opw_slice (q := 78) (b := 48) Try.underlying76 (by kernel_rfl) (by kernel_rfl) (XO.opw_iso (fun x : S78 => (x.f0, x.f1)) (fun p => ⟨p.1, p.2⟩) (fun _ => rfl) (XO.opw_struct (n := 2) Try.underlying78 (by kernel_rfl) (XO.opwf_cons (c := 1) rfl (by kernel_rfl) (XO.opw_slice (q := 63) (b := 32) Try.underlying48 (by kernel_rfl) (by kernel_rfl) (XO.opw_iso (fun x : S63 => (x.f0, x.f1)) (fun p => ⟨p.1, p.2⟩) (fun _ => rfl) (XO.opw_struct (n := 2) Try.underlying63 (by kernel_rfl) (XO.opwf_cons (c := 1) rfl (by kernel_rfl) (XO.opw_string Try.underlying9) (XO.opwf_one (c := 1) rfl (by kernel_rfl) rfl (XO.opw_string Try.underlying9)))))) (XO.opwf_one (c := 1) rfl (by kernel_rfl) rfl (XO.opw_slice (q := 54) (b := 16) Try.underlying60 (by kernel_rfl) (by kernel_rfl) (XO.opw_iso (fun x : S54 => (x.f0, x.f1)) (fun p => ⟨p.1, p.2⟩) (fun _ => rfl) (XO.opw_struct (n := 2) Try.underlying54 (by kernel_rfl) (XO.opwf_cons (c := 1) rfl (by kernel_rfl) (XO.opw_int Try.underlying3) (XO.opwf_one (c := 1) rfl (by kernel_rfl) rfl (XO.opw_int Try.underlying3)))))))))))) H enc _ _ _ hf0 (fun n hn => of_decide_eq_true (List.all_eq_true.1 hsz _ (DataW.weights_mem_each (j := 0) (t := 74) rfl rfl n hn)))
  obtain ⟨rfl, rfl, rfl⟩ : A0 = a0 ∧ len0 = l0.length ∧ c0 = cap0 := by
    have z := (List.cons.inj (show [Value.slice a0 len0 cap0] = [Value.slice A0 l0.length c0] from e0)).1
    injection z with z1 z2 z3
    exact ⟨z1.symm, z2, z3.symm⟩
  clear hA0 hval0 hsz0 hsz
  refine (PMergeSeries.lysimeterlaw18_MergeSeries.walk Pure.MergeSeries A0 c0 l0 W hr0 hc0 g0).mono fun e W' ⟨he, bel⟩ => ?_
  subst he
  exact ⟨_, rfl, _, _, _, [], _, [], hW', trodAll_mk1 (shut_bool Try.underlying4 _), (trodAll_cons_mk (Below.trod laidOut (by kernel_rfl) (of_decide_eq_true (by kernel_rfl)) k0 bel lt0) trodAll_mk0), rfl, bel.frame _, fun h => by cases h⟩
theorem over : Rows.mergeSeriesUptoRow.holds Try.pinned (Rows.OpenSpec.upto Rows.mergeSeriesSpec) :=
  OpenClaim.holds_of_cond 10 Try.f10 rfl rfl rfl rfl rfl rfl rfl ⟨rfl, rfl, rfl, rfl, rfl⟩ rfl rfl rfl rfl rfl (by kernel_rfl) Try.func10 (by kernel_rfl)
    (of_decide_eq_true (by kernel_rfl)) (by unfold Func.isWrapper; first | (rw [if_pos (by decide +kernel)]; kernel_rfl) | (rw [if_neg (by decide +kernel)]; exact ⟨rfl, rfl⟩))
    (fun os started H enc _ F => lifted os started H enc F)
theorem proved : Rows.MergeSeriesUptoSaid := over
#print axioms proved
end Go.Proofs.Ytjilnpbgclnecac.mergeSeries
namespace Go.Proofs.Ytjilnpbgclnecac
/-- The row, under a short name, for the claim. -/
theorem mergeSeries_holds : Rows.MergeSeriesUptoSaid := mergeSeries.proved
end Go.Proofs.Ytjilnpbgclnecac
