/- The law ManifestPacks: for every input that the row speaks of the call returns true, and each argument reads afterwards as it read before; no condition beside the row's own. -/
import Derived.Test.YtjilnpbgclnecabRows
import Derived.Test.YtjilnpbgclnecabPManifestPacksx11
import Derived.Test.YtjilnpbgclnecabPureManifestPacks
import Derived.Test.YtjilnpbgclnecabXOpen
import Derived.WalkKit
import Derived.ProofKit
import Derived.OpenShut
import Derived.ShutString
import Derived.ChangeOld
import Derived.Below
import Derived.SizedLaws
import Derived.Test.YtjilnpbgclnecabWSized
namespace Go.Proofs.Ytjilnpbgclnecab.manifestPacks
open Go.ChangeShapes Go.WideShapes Go.ChangeAt Go.RowKit
open Go.ChangeMaps (open_string shut_string)
open Go.Proofs.Ytjilnpbgclnecab Go.Proofs.Ytjilnpbgclnecab.PManifestPacks Go.Proofs.YtjilnpbgclnecabW.PrintWords
set_option linter.unusedVariables false
theorem own : ownKnob Try.prog.godebug = none := by kernel_rfl
theorem laidOut : laidOutB Try.prog = true := by kernel_rfl
def IsRow (k : IntKind) (w : World) (a : Option Addr) (len cap : Nat) (zs : List Int) : Prop :=
  (a = none ∧ len = 0 ∧ cap = 0 ∧ zs = []) ∨
  ∃ x, a = some x ∧ len ≤ cap ∧ cap ≤ maxLen ∧ zs.length = cap ∧ (∀ i, i < zs.length → w.cell? (x.add i) = some (.int k (zs.getD i 0))) ∧ ∀ n ∈ zs, (Lit.int k n).wf = true
set_option maxRecDepth 100000 in
theorem lifted (os : Os) (started : os.Started) (H : Type) (enc : TypeId × Value → H) :
    ReturnsInHanded {} Try.checked os 12 .any (Rows.manifestPacksSpec.pre6 enc Try.prog Try.f12 Rows.manifestPacksRow.domain false) (Rows.manifestPacksSpec.post enc Try.prog Try.f12 false true false false) := by
  refine returnsInHanded_of_change_sized (C := Try.checked) own started (by kernel_rfl) Try.func12
    (ChangeSpec.witness6 (enc := enc) (C := Try.checked) false ⟨#[], #[(.agg #[(.slice none 0 0), (.int .i64 0), (.int .i64 0), (.int .i64 0)]), (.agg #[(.slice none 0 0), (.int .i64 0), (.int .i64 0), (.int .i64 0)])], []⟩ 8 (by kernel_rfl) (by kernel_rfl) (by kernel_rfl) (by kernel_rfl)) ?_
  intro W base args ds gs before hval0 hW hcnd hsz0 _
  have hsz : (DataW.weightsEach Try.prog (Try.f12.params.toList ++ Rows.manifestPacksSpec.plain.varTypes Try.prog) (ds ++ gs)).all (· ≤ reachBytes) = true := hsz0
  have hval : ∀ (j : Nat) t v, Try.f12.params[j]? = some t → args[j]? = some v → Value.okWide Try.prog W .any base t v := hval0
  have hW' := hW
  obtain ⟨p, q, hA0, hV, rfl, hfz, hnd⟩ := hW
  have hA : DataW.TrodAll enc Try.prog W 0 (fun _ => true) true Try.f12.params.toList args.toList ds p := hA0
  rw [Try.params12] at hA hval hsz
  obtain ⟨v0, vs0, d0, ds0, p0, q0, hargs, rfl, rfl, h0, r0⟩ := trodAll_cons hA
  obtain ⟨v1, vs1, d1, ds1, p1, q1, rfl, rfl, rfl, h1, r1⟩ := trodAll_cons r0
  obtain ⟨rfl, rfl, rfl⟩ := trodAll_nil r1
  obtain rfl : args = #[v0, v1] := by cases args; simp_all
  obtain ⟨rfl, rfl⟩ := trodVars_none hV
  obtain ⟨cs0, rfl, _⟩ := okWide_struct Try.underlying50 (hval 0 50 v0 rfl rfl)
  have k0 := h0
  have lt0 : ∀ x ∈ p0, x.block < W.heap.size := by obtain ⟨m, hm⟩ := k0; exact DataW.trod_lt m _ _ _ hm
  obtain ⟨fuel0, hf0⟩ := h0
  obtain ⟨⟨l0_0, a0_1, a0_2, a0_3⟩, ⟨_, _, e0, ⟨A0_0, c0_0, rfl, hc0_0, hr0_0⟩, ⟨_, _, rfl, rfl, ⟨_, _, rfl, rfl, rfl⟩⟩⟩, ⟨g0_0, g0_1, g0_2, g0_3⟩⟩ := (XO.opn_struct (n := 4) Try.underlying50 (by kernel_rfl) (XO.opnf_cons (c := 1) rfl (by kernel_rfl) (XO.opn_slice (q := 52) Try.underlying48 (by kernel_rfl) (XO.opn_iso (fun x : S52 => (x.f0, x.f1, x.f2, x.f3)) (fun p => ⟨p.1, p.2.1, p.2.2.1, p.2.2.2⟩) (fun _ => rfl) (XO.opn_struct (n := 4) Try.underlying52 (by kernel_rfl) (XO.opnf_cons (c := 1) rfl (by kernel_rfl) (XO.opn_int Try.underlying3) (XO.opnf_cons (c := 1) rfl (by kernel_rfl) (XO.opn_int Try.underlying3) (XO.opnf_cons (c := 1) rfl (by kernel_rfl) (XO.opn_int Try.underlying3) (XO.opnf_one (c := 1) rfl (by kernel_rfl) rfl (XO.opn_int Try.underlying3)))))))) (XO.opnf_cons (c := 1) rfl (by kernel_rfl) (XO.opn_int Try.underlying3) (XO.opnf_cons (c := 1) rfl (by kernel_rfl) (XO.opn_int Try.underlying3) (XO.opnf_one (c := 1) rfl (by kernel_rfl) rfl (XO.opn_int Try.underlying3)))))) H enc _ _ _ hf0
  obtain rfl := Array.ext' (xs := cs0) (ys := #[.slice A0_0 l0_0.length c0_0, .int .i64 a0_1, .int .i64 a0_2, .int .i64 a0_3]) e0
  obtain ⟨cs1, rfl, _⟩ := okWide_struct Try.underlying50 (hval 1 50 v1 rfl rfl)
  have k1 := h1
  have lt1 : ∀ x ∈ p1, x.block < W.heap.size := by obtain ⟨m, hm⟩ := k1; exact DataW.trod_lt m _ _ _ hm
  obtain ⟨fuel1, hf1⟩ := h1
  obtain ⟨⟨l1_0, a1_1, a1_2, a1_3⟩, ⟨_, _, e1, ⟨A1_0, c1_0, rfl, hc1_0, hr1_0⟩, ⟨_, _, rfl, rfl, ⟨_, _, rfl, rfl, rfl⟩⟩⟩, ⟨g1_0, g1_1, g1_2, g1_3⟩⟩ := (XO.opn_struct (n := 4) Try.underlying50 (by kernel_rfl) (XO.opnf_cons (c := 1) rfl (by kernel_rfl) (XO.opn_slice (q := 52) Try.underlying48 (by kernel_rfl) (XO.opn_iso (fun x : S52 => (x.f0, x.f1, x.f2, x.f3)) (fun p => ⟨p.1, p.2.1, p.2.2.1, p.2.2.2⟩) (fun _ => rfl) (XO.opn_struct (n := 4) Try.underlying52 (by kernel_rfl) (XO.opnf_cons (c := 1) rfl (by kernel_rfl) (XO.opn_int Try.underlying3) (XO.opnf_cons (c := 1) rfl (by kernel_rfl) (XO.opn_int Try.underlying3) (XO.opnf_cons (c := 1) rfl (by kernel_rfl) (XO.opn_int Try.underlying3) (XO.opnf_one (c := 1) rfl (by kernel_rfl) rfl (XO.opn_int Try.underlying3)))))))) (XO.opnf_cons (c := 1) rfl (by kernel_rfl) (XO.opn_int Try.underlying3) (XO.opnf_cons (c := 1) rfl (by kernel_rfl) (XO.opn_int Try.underlying3) (XO.opnf_one (c := 1) rfl (by kernel_rfl) rfl (XO.opn_int Try.underlying3)))))) H enc _ _ _ hf1
  obtain rfl := Array.ext' (xs := cs1) (ys := #[.slice A1_0 l1_0.length c1_0, .int .i64 a1_1, .int .i64 a1_2, .int .i64 a1_3]) e1
  clear hA0 hval0 hsz0 hsz
  refine (PManifestPacks.lysimeterlaw17_ManifestPacks.walk Pure.ManifestPacks A0_0 c0_0 l0_0 a0_1 a0_2 a0_3 A1_0 c1_0 l1_0 a1_1 a1_2 a1_3 W hr0_0 hc0_0 g0_0 g0_1 g0_2 g0_3 hr1_0 hc1_0 g1_0 g1_1 g1_2 g1_3).mono fun e W' ⟨he, bel⟩ => ?_
  subst he
  exact ⟨_, rfl, _, _, _, [], _, [], hW', trodAll_mk1 (shut_bool Try.underlying4 _), (trodAll_cons_mk (Below.trod laidOut (by kernel_rfl) (of_decide_eq_true (by kernel_rfl)) k0 bel lt0) (trodAll_cons_mk (Below.trod laidOut (by kernel_rfl) (of_decide_eq_true (by kernel_rfl)) k1 bel lt1) trodAll_mk0)), rfl, bel.frame _, fun h => by cases h⟩
theorem over : Rows.manifestPacksRow.holds Try.pinned (OpenSpec.ofChange Rows.manifestPacksSpec) :=
  OpenClaim.holds_of_wide 12 Try.f12 rfl rfl rfl rfl rfl rfl rfl ⟨rfl, rfl, rfl, rfl, rfl⟩ rfl rfl rfl rfl rfl (by kernel_rfl) Try.func12 (by kernel_rfl)
    (of_decide_eq_true (by kernel_rfl)) (by unfold Func.isWrapper; first | (rw [if_pos (by decide +kernel)]; kernel_rfl) | (rw [if_neg (by decide +kernel)]; exact ⟨rfl, rfl⟩))
    (fun os started H enc _ => lifted os started H enc)
theorem proved : Rows.ManifestPacksSaid := over
#print axioms proved
end Go.Proofs.Ytjilnpbgclnecab.manifestPacks
namespace Go.Proofs.Ytjilnpbgclnecab
/-- The row, under a short name, for the claim. -/
theorem manifestPacks_holds : Rows.ManifestPacksSaid := manifestPacks.proved
end Go.Proofs.Ytjilnpbgclnecab
