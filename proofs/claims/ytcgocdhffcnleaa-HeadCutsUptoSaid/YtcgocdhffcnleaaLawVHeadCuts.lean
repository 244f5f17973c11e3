/- The law HeadCuts, in its form with a bound on the bulk of the arguments: for every such input that the row speaks of the call returns true, and each argument reads afterwards as it read before; no condition beside the row's own. -/
import Derived.Test.YtcgocdhffcnleaaRows
import Derived.Test.YtcgocdhffcnleaaVHeadCutsba
import Derived.Test.YtcgocdhffcnleaaVHeadCutsbc
import Derived.Test.YtcgocdhffcnleaaVHeadCutsbb
import Derived.WalkKit
import Derived.ProofKit
import Derived.OpenShut
import Derived.ShutString
import Derived.ChangeOld
import Derived.Below
import Derived.SizedLaws
import Derived.Deep.CondSized
import Derived.Test.YtcgocdhffcnleaaVHeadCutsbd
namespace Go.Proofs.Ytcgocdhffcnleaa.headCuts
open Go.ChangeShapes Go.WideShapes Go.ChangeAt Go.RowKit
open Go.ChangeMaps (open_string shut_string)
open Go.Proofs.Ytcgocdhffcnleaa Go.Proofs.YtcgocdhffcnleaaW.PrintWords Go.Proofs.Ytcgocdhffcnleaa.PHead Go.Proofs.Ytcgocdhffcnleaa.PHeadPlays
set_option linter.unusedVariables false
theorem own : ownKnob Try.prog.godebug = none := by kernel_rfl
theorem laidOut : laidOutB Try.prog = true := by kernel_rfl
set_option maxRecDepth 100000 in
theorem lifted (os : Os) (started : os.Started) (H : Type) (enc : TypeId × Value → H) (F : Stop.Interp) :
    ReturnsInHanded {} Try.checked os 8 .any ((Rows.OpenSpec.upto Rows.headCutsSpec).pre6 enc Try.prog Try.f8 Rows.headCutsUptoRow.domain false) (((Rows.OpenSpec.upto Rows.headCutsSpec).at F).post enc Try.prog Try.f8 false true false false) := by
  refine returnsInHanded_of_cond_sized (C := Try.checked) (s := Rows.OpenSpec.upto Rows.headCutsSpec) (k := Rows.uptoSmall) rfl own started (by kernel_rfl) Try.func8
    (OpenSpec.witness (enc := enc) (C := Try.checked) (s := Rows.OpenSpec.upto Rows.headCutsSpec) (k := Rows.uptoSmall) rfl false ⟨#[], #[.slice none 0 0, .int .i64 0], []⟩ 8 (by kernel_rfl) (by kernel_rfl) (by kernel_rfl) (x := ([.nil, .lit (.int .i64 0)], [], [])) (by kernel_rfl) rfl (by kernel_rfl)) ?_
  intro W base args ds gs before hval0 hW hcnd _ hsz0 _
  have hsz : (DataW.weightsEach Try.prog (Try.f8.params.toList ++ Rows.headCutsSpec.plain.varTypes Try.prog) (ds ++ gs)).all (· ≤ reachBytes) = true := hsz0
  have hval : ∀ (j : Nat) t v, Try.f8.params[j]? = some t → args[j]? = some v → Value.okWide Try.prog W .any base t v := hval0
  have hW' := hW
  obtain ⟨p, q, hA0, hV, rfl, hfz, hnd⟩ := hW
  have hA : DataW.TrodAll enc Try.prog W 0 (fun _ => true) true Try.f8.params.toList args.toList ds p := hA0
  rw [Try.params8] at hA hval hsz
  obtain ⟨v0, vs0, d0, ds0, p0, q0, hargs, rfl, rfl, h0, r0⟩ := trodAll_cons hA
  obtain ⟨v1, vs1, d1, ds1, p1, q1, rfl, rfl, rfl, h1, r1⟩ := trodAll_cons r0
  obtain ⟨rfl, rfl, rfl⟩ := trodAll_nil r1
  obtain rfl : args = #[v0, v1] := by cases args; simp_all
  obtain ⟨rfl, rfl⟩ := trodVars_none hV
  obtain ⟨a0, len0, cap0, rfl⟩ := okWide_slice Try.underlying48 (hval 0 48 v0 rfl rfl)
  have k0 := h0
  have lt0 : ∀ x ∈ p0, x.block < W.heap.size := by obtain ⟨m, hm⟩ := k0; exact DataW.trod_lt m _ _ _ hm
  obtain ⟨fuel0, hf0⟩ := h0
  obtain ⟨l0, ⟨A0, c0, e0, hc0, hr0⟩, g0⟩ := (XO.opw_slice (q := 46) (b := 40) Try.underlying48 (by kernel_rfl) (by kernel_rfl) (XO.opw_iso (fun x : S46 => (x.f0, x.f1)) (fun p => ⟨p.1, p.2⟩) (fun _ => rfl) (XO.opw_struct (n := 3) Try.underlying46 (by kernel_rfl) (XO.opwf_cons (c := 1) rfl (by kernel_rfl) (XO.opw_slice (q := 53) (b := 32) Try.underlying38 (by kernel_rfl) (by kernel_rfl) (XO.opw_iso (fun x : S53 => (x.f0, x.f1)) (fun p => ⟨p.1, p.2⟩) (fun _ => rfl) (XO.opw_struct (n := 2) Try.underlying53 (by kernel_rfl) (XO.opwf_cons (c := 1) rfl (by kernel_rfl) (XO.opw_string Try.underlying9) (XO.opwf_one (c := 1) rfl (by kernel_rfl) rfl (XO.opw_string Try.underlying9)))))) (XO.opwf_one (c := 2) rfl (by kernel_rfl) rfl (XO.opw_iso (fun x : S44 => (x.f0, x.f1)) (fun p => ⟨p.1, p.2⟩) (fun _ => rfl) (XO.opw_struct (n := 2) Try.underlying44 (by kernel_rfl) (XO.opwf_cons (c := 1) rfl (by kernel_rfl) (XO.opw_int Try.underlying3) (XO.opwf_one (c := 1) rfl (by kernel_rfl) rfl (XO.opw_int Try.underlying3)))))))))) H enc _ _ _ hf0 (fun n hn => of_decide_eq_true (List.all_eq_true.1 hsz _ (DataW.weights_mem_each (j := 0) (t := 48) rfl rfl n hn)))
  obtain ⟨rfl, rfl, rfl⟩ : A0 = a0 ∧ len0 = l0.length ∧ c0 = cap0 := by
    have z := (List.cons.inj (show [Value.slice a0 len0 cap0] = [Value.slice A0 l0.length c0] from e0)).1
    injection z with z1 z2 z3
    exact ⟨z1.symm, z2, z3.symm⟩
  obtain ⟨a1, rfl, rfl, rfl, w1⟩ := open_int Try.underlying3 (hval 1 3 v1 rfl rfl) h1
  clear hA0 hval0 hsz0 hsz
  refine (HeadCuts.calls A0 c0 l0 a1 W hr0 hc0 (by have := g0.1; rw [XO.reach_eq] at this; omega) (fun y hy => by have := (g0.2 y hy).1.1; rw [XO.reach_eq] at this; dsimp only at this; omega)).mono fun e W' ⟨he, bel⟩ => ?_
  subst he
  exact ⟨_, rfl, _, _, _, [], _, [], hW', trodAll_mk1 (shut_bool Try.underlying4 _), (trodAll_cons_mk (Below.trod laidOut (by kernel_rfl) (of_decide_eq_true (by kernel_rfl)) k0 bel lt0) (trodAll_cons_mk (shut_int Try.underlying3 w1) trodAll_mk0)), rfl, bel.frame _, fun h => by cases h⟩
theorem over : Rows.headCutsUptoRow.holds Try.pinned (Rows.OpenSpec.upto Rows.headCutsSpec) :=
  OpenClaim.holds_of_cond 8 Try.f8 rfl rfl rfl rfl rfl rfl rfl ⟨rfl, rfl, rfl, rfl, rfl⟩ rfl rfl rfl rfl rfl (by kernel_rfl) Try.func8 (by kernel_rfl)
    (of_decide_eq_true (by kernel_rfl)) (by unfold Func.isWrapper; first | (rw [if_pos (by decide +kernel)]; kernel_rfl) | (rw [if_neg (by decide +kernel)]; exact ⟨rfl, rfl⟩))
    (fun os started H enc _ F => lifted os started H enc F)
theorem proved : Rows.HeadCutsUptoSaid := over
#print axioms proved
end Go.Proofs.Ytcgocdhffcnleaa.headCuts
namespace Go.Proofs.Ytcgocdhffcnleaa
/-- The row, under a short name, for the claim. -/
theorem headCuts_holds : Rows.HeadCutsUptoSaid := headCuts.proved
end Go.Proofs.Ytcgocdhffcnleaa
