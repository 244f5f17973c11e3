/- The law MergeTwice: for every input that the row speaks of the call returns true, and each argument reads afterwards as it read before; no condition beside the row's own. -/
import Derived.Test.YtjilnpbgclnecacRows
import Derived.Test.YtjilnpbgclnecacPMergeTwicex4
import Derived.Test.YtjilnpbgclnecacPureMergeTwice
import Derived.Test.YtjilnpbgclnecacXReach
import Derived.WalkKit
import Derived.ProofKit
import Derived.OpenShut
import Derived.ShutString
import Derived.ChangeOld
import Derived.Below
import Derived.SizedLaws
import Derived.Test.YtjilnpbgclnecacWSized
namespace Go.Proofs.Ytjilnpbgclnecac.mergeTwice
open Go.ChangeShapes Go.WideShapes Go.ChangeAt Go.RowKit
open Go.ChangeMaps (open_string shut_string)
open Go.Proofs.Ytjilnpbgclnecac Go.Proofs.Ytjilnpbgclnecac.PMergeTwice Go.Proofs.YtjilnpbgclnecacW.PrintWords
set_option linter.unusedVariables false
theorem own : ownKnob Try.prog.godebug = none := by kernel_rfl
theorem laidOut : laidOutB Try.prog = true := by kernel_rfl
def IsRow (k : IntKind) (w : World) (a : Option Addr) (len cap : Nat) (zs : List Int) : Prop :=
  (a = none ∧ len = 0 ∧ cap = 0 ∧ zs = []) ∨
  ∃ x, a = some x ∧ len ≤ cap ∧ cap ≤ maxLen ∧ zs.length = cap ∧ (∀ i, i < zs.length → w.cell? (x.add i) = some (.int k (zs.getD i 0))) ∧ ∀ n ∈ zs, (Lit.int k n).wf = true
set_option maxRecDepth 100000 in
theorem lifted (os : Os) (started : os.Started) (H : Type) (enc : TypeId × Value → H) :
    ReturnsInHanded {} Try.checked os 8 .any (Rows.mergeTwiceSpec.pre6 enc Try.prog Try.f8 Rows.mergeTwiceRow.domain false) (Rows.mergeTwiceSpec.post enc Try.prog Try.f8 false true false false) := by
  refine returnsInHanded_of_change_sized (C := Try.checked) own started (by kernel_rfl) Try.func8
    (ChangeSpec.witness6 (enc := enc) (C := Try.checked) false ⟨#[], #[.slice none 0 0, .slice none 0 0, .slice none 0 0], []⟩ 8 (by kernel_rfl) (by kernel_rfl) (by kernel_rfl) (by kernel_rfl)) ?_
  intro W base args ds gs before hval0 hW hcnd hsz0 _
  have hsz : (DataW.weightsEach Try.prog (Try.f8.params.toList ++ Rows.mergeTwiceSpec.plain.varTypes Try.prog) (ds ++ gs)).all (· ≤ reachBytes) = true := hsz0
  have hval : ∀ (j : Nat) t v, Try.f8.params[j]? = some t → args[j]? = some v → Value.okWide Try.prog W .any base t v := hval0
  have hW' := hW
  obtain ⟨p, q, hA0, hV, rfl, hfz, hnd⟩ := hW
  have hA : DataW.TrodAll enc Try.prog W 0 (fun _ => true) true Try.f8.params.toList args.toList ds p := hA0
  rw [Try.params8] at hA hval hsz
  obtain ⟨v0, vs0, d0, ds0, p0, q0, hargs, rfl, rfl, h0, r0⟩ := trodAll_cons hA
  obtain ⟨v1, vs1, d1, ds1, p1, q1, rfl, rfl, rfl, h1, r1⟩ := trodAll_cons r0
  obtain ⟨v2, vs2, d2, ds2, p2, q2, rfl, rfl, rfl, h2, r2⟩ := trodAll_cons r1
  obtain ⟨rfl, rfl, rfl⟩ := trodAll_nil r2
  obtain rfl : args = #[v0, v1, v2] := by cases args; simp_all
  obtain ⟨rfl, rfl⟩ := trodVars_none hV
  obtain ⟨a0, len0, cap0, rfl⟩ := okWide_slice Try.underlying60 (hval 0 60 v0 rfl rfl)
  have k0 := h0
  have lt0 : ∀ x ∈ p0, x.block < W.heap.size := by obtain ⟨m, hm⟩ := k0; exact DataW.trod_lt m _ _ _ hm
  obtain ⟨fuel0, hf0⟩ := h0
  obtain ⟨l0, ⟨A0, c0, e0, hc0, hr0⟩, g0⟩ := (XO.opw_slice (q := 54) (b := 16) Try.underlying60 (by kernel_rfl) (by kernel_rfl) (XO.opw_iso (fun x : S54 => (x.f0, x.f1)) (fun p => ⟨p.1, p.2⟩) (fun _ => rfl) (XO.opw_struct (n := 2) Try.underlying54 (by kernel_rfl) (XO.opwf_cons (c := 1) rfl (by kernel_rfl) (XO.opw_int Try.underlying3) (XO.opwf_one (c := 1) rfl (by kernel_rfl) rfl (XO.opw_int Try.underlying3)))))) H enc _ _ _ hf0 (fun n hn => of_decide_eq_true (List.all_eq_true.1 hsz _ (DataW.weights_mem_each (j := 0) (t := 60) rfl rfl n hn)))
  obtain ⟨rfl, rfl, rfl⟩ : A0 = a0 ∧ len0 = l0.length ∧ c0 = cap0 := by
    have z := (List.cons.inj (show [Value.slice a0 len0 cap0] = [Value.slice A0 l0.length c0] from e0)).1
    injection z with z1 z2 z3
    exact ⟨z1.symm, z2, z3.symm⟩
  obtain ⟨a1, len1, cap1, rfl⟩ := okWide_slice Try.underlying60 (hval 1 60 v1 rfl rfl)
  have k1 := h1
  have lt1 : ∀ x ∈ p1, x.block < W.heap.size := by obtain ⟨m, hm⟩ := k1; exact DataW.trod_lt m _ _ _ hm
  obtain ⟨fuel1, hf1⟩ := h1
  obtain ⟨l1, ⟨A1, c1, e1, hc1, hr1⟩, g1⟩ := (XO.opw_slice (q := 54) (b := 16) Try.underlying60 (by kernel_rfl) (by kernel_rfl) (XO.opw_iso (fun x : S54 => (x.f0, x.f1)) (fun p => ⟨p.1, p.2⟩) (fun _ => rfl) (XO.opw_struct (n := 2) Try.underlying54 (by kernel_rfl) (XO.opwf_cons (c := 1) rfl (by kernel_rfl) (XO.opw_int Try.underlying3) (XO.opwf_one (c := 1) rfl (by kernel_rfl) rfl (XO.opw_int Try.underlying3)))))) H enc _ _ _ hf1 (fun n hn => of_decide_eq_true (List.all_eq_true.1 hsz _ (DataW.weights_mem_each (j := 1) (t := 60) rfl rfl n hn)))
  obtain ⟨rfl, rfl, rfl⟩ : A1 = a1 ∧ len1 = l1.length ∧ c1 = cap1 := by
    have z := (List.cons.inj (show [Value.slice a1 len1 cap1] = [Value.slice A1 l1.length c1] from e1)).1
    injection z with z1 z2 z3
    exact ⟨z1.symm, z2, z3.symm⟩
  obtain ⟨a2, len2, cap2, rfl⟩ := okWide_slice Try.underlying60 (hval 2 60 v2 rfl rfl)
  have k2 := h2
  have lt2 : ∀ x ∈ p2, x.block < W.heap.size := by obtain ⟨m, hm⟩ := k2; exact DataW.trod_lt m _ _ _ hm
  obtain ⟨fuel2, hf2⟩ := h2
  obtain ⟨l2, ⟨A2, c2, e2, hc2, hr2⟩, g2⟩ := (XO.opw_slice (q := 54) (b := 16) Try.underlying60 (by kernel_rfl) (by kernel_rfl) (XO.opw_iso (fun x : S54 => (x.f0, x.f1)) (fun p => ⟨p.1, p.2⟩) (fun _ => rfl) (XO.opw_struct (n := 2) Try.underlying54 (by kernel_rfl) (XO.opwf_cons (c := 1) rfl (by kernel_rfl) (XO.opw_int Try.underlying3) (XO.opwf_one (c := 1) rfl (by kernel_rfl) rfl (XO.opw_int Try.underlying3)))))) H enc _ _ _ hf2 (fun n hn => of_decide_eq_true (List.all_eq_true.1 hsz _ (DataW.weights_mem_each (j := 2) (t := 60) rfl rfl n hn)))
  obtain ⟨rfl, rfl, rfl⟩ : A2 = a2 ∧ len2 = l2.length ∧ c2 = cap2 := by
    have z := (List.cons.inj (show [Value.slice a2 len2 cap2] = [Value.slice A2 l2.length c2] from e2)).1
    injection z with z1 z2 z3
    exact ⟨z1.symm, z2, z3.symm⟩
  clear hA0 hval0 hsz0 hsz
  refine (PMergeTwice.lysimeterlaw18_MergeTwice.walk Pure.MergeTwice A0 c0 l0 A1 c1 l1 A2 c2 l2 W hr0 hc0 g0 hr1 hc1 g1 hr2 hc2 g2).mono fun e W' ⟨he, bel⟩ => ?_
  subst he
  exact ⟨_, rfl, _, _, _, [], _, [], hW', trodAll_mk1 (shut_bool Try.underlying4 _), (trodAll_cons_mk (Below.trod laidOut (by kernel_rfl) (of_decide_eq_true (by kernel_rfl)) k0 bel lt0) (trodAll_cons_mk (Below.trod laidOut (by kernel_rfl) (of_decide_eq_true (by kernel_rfl)) k1 bel lt1) (trodAll_cons_mk (Below.trod laidOut (by kernel_rfl) (of_decide_eq_true (by kernel_rfl)) k2 bel lt2) trodAll_mk0))), rfl, bel.frame _, fun h => by cases h⟩
theorem over : Rows.mergeTwiceRow.holds Try.pinned (OpenSpec.ofChange Rows.mergeTwiceSpec) :=
  OpenClaim.holds_of_wide 8 Try.f8 rfl rfl rfl rfl rfl rfl rfl ⟨rfl, rfl, rfl, rfl, rfl⟩ rfl rfl rfl rfl rfl (by kernel_rfl) Try.func8 (by kernel_rfl)
    (of_decide_eq_true (by kernel_rfl)) (by unfold Func.isWrapper; first | (rw [if_pos (by decide +kernel)]; kernel_rfl) | (rw [if_neg (by decide +kernel)]; exact ⟨rfl, rfl⟩))
    (fun os started H enc _ => lifted os started H enc)
theorem proved : Rows.MergeTwiceSaid := over
#print axioms proved
end Go.Proofs.Ytjilnpbgclnecac.mergeTwice
namespace Go.Proofs.Ytjilnpbgclnecac
/-- The row, under a short name, for the claim. -/
theorem mergeTwice_holds : Rows.MergeTwiceSaid := mergeTwice.proved
end Go.Proofs.Ytjilnpbgclnecac
