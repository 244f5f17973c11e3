/- Lists may be put together by twos, from the left or from the right, and what is put together once more is the same (statement MergeTwice); no condition. -/
import Derived.Test.YtjilnpbgclnecacPMergeTwicex4
import Derived.Test.YtjilnpbgclnecacXPure
set_option linter.unusedVariables false
set_option linter.unusedSimpArgs false
namespace Go.Proofs.Ytjilnpbgclnecac.Pure
open Go Go.RowKit Go.Proofs.Ytjilnpbgclnecac.PMergeTwice Go.Proofs.Ytjilnpbgclnecac.XP Go.Proofs.YtjilnpbgclnecacW.PrintWords Go.Proofs.YtjilnpbgclnecacW.PrintLast Go.Proofs.YtjilnpbgclnecacW.PrintMore

/-! ### two rows of samples that are one -/
theorem rdS_nat {l : List S54} {i : Nat} (h : i < l.length) : rd_T54 l (i : Int) = l[i] := by
  unfold rd_T54
  rw [Int.toNat_natCast, List.getD_eq_getElem?_getD, List.getElem?_eq_getElem h]; rfl
theorem rdL_nat {l : List (List S54)} {i : Nat} (h : i < l.length) : rd_L2 l (i : Int) = l[i] := by
  unfold rd_L2
  rw [Int.toNat_natCast, List.getD_eq_getElem?_getD, List.getElem?_eq_getElem h]; rfl
theorem wiS {i n : Nat} (h : i < n) (hn : n ≤ 1152921504606846976) : wrap64 ((i : Int) + 1) = ((i + 1 : Nat) : Int) := by rw [w64 (by omega) (by omega)]; omega
theorem sams_l0 (a : List S54) (hn : a.length ≤ 1152921504606846976) : ∀ (d i : Nat), i + d = a.length → Ev (fun k => lysimeterref11_SameSamples.l0 k a a (i : Int)) true := by
  intro d
  induction d with
  | zero =>
    intro i hi
    refine Ev.step (f := fun _ => some true) (fun k => ?_) (Ev.now _)
    simp only [lysimeterref11_SameSamples.l0]
    rw [if_neg (by omega)]
  | succ d ih =>
    intro i hi
    have hlt : i < a.length := by omega
    refine Ev.step (f := fun k => lysimeterref11_SameSamples.l0 k a a ((i + 1 : Nat) : Int)) (fun k => ?_) (ih (i + 1) (by omega))
    simp only [lysimeterref11_SameSamples.l0]
    rw [if_pos (by omega), if_pos (by omega), if_pos (by omega), if_neg (by simp), wiS hlt hn]
theorem sams_self {a : List S54} (hn : a.length ≤ 1152921504606846976) : Ev (fun k => lysimeterref11_SameSamples.f k a a) true := by
  unfold lysimeterref11_SameSamples.f
  exact ev_if_pos rfl (sams_l0 a hn a.length 0 (by omega))
/-! ### many lists put together -/
theorem samples_ev {x : List (List S54)} (hx : x.length < 1099511627776) (hb : x.flatten.length < 1099511627776) : merge_Samples.f x = some (XMg.mrg merge_Samples.key x.flatten) := by
  unfold merge_Samples.f
  rw [if_pos ⟨hx, hb⟩]
theorem alive18_ev : lysimeterlaw18_alive.f = some true := by
  have hm : XMg.mrg merge_Samples.key [(⟨1, 1⟩ : S54), ⟨2, 2⟩, ⟨2, 3⟩] = [⟨1, 1⟩, ⟨2, 3⟩] := by simp [XMg.mrg, XMg.put, merge_Samples.key]
  unfold lysimeterlaw18_alive.f
  rw [samples_ev (by decide) (by decide), show ([[(⟨1, 1⟩ : S54), ⟨2, 2⟩], [⟨2, 3⟩]] : List (List S54)).flatten = [⟨1, 1⟩, ⟨2, 2⟩, ⟨2, 3⟩] from rfl, hm]
  rfl
theorem mrgS_len (l : List S54) : (XMg.mrg merge_Samples.key l).length ≤ l.length := XMg.mrg_len l
theorem mrg_left (a b c : List S54) : XMg.mrg merge_Samples.key (XMg.mrg merge_Samples.key (a ++ b) ++ c) = XMg.mrg merge_Samples.key (a ++ (b ++ c)) :=
  XMg.mrg_congr fun t => by simp only [XMg.lst_append, XMg.lst_mrg, Option.or_assoc]
theorem mrg_right (a b c : List S54) : XMg.mrg merge_Samples.key (a ++ XMg.mrg merge_Samples.key (b ++ c)) = XMg.mrg merge_Samples.key (a ++ (b ++ c)) :=
  XMg.mrg_congr fun t => by simp only [XMg.lst_append, XMg.lst_mrg]
theorem mrg_again (l : List S54) : XMg.mrg merge_Samples.key (XMg.mrg merge_Samples.key l ++ XMg.mrg merge_Samples.key l) = XMg.mrg merge_Samples.key l :=
  XMg.mrg_congr fun t => by rw [XMg.lst_append, XMg.lst_mrg, Option.or_self]
theorem MergeTwice : lysimeterlaw18_MergeTwice.Pure := by
  intro a b c ⟨ha, _⟩ ⟨hb, _⟩ ⟨hc, _⟩
  rw [show reachBytes = 140737488351232 from rfl] at ha hb hc
  have hl := mrgS_len (a ++ (b ++ c))
  have hll : (a ++ (b ++ c)).length = a.length + (b.length + c.length) := by simp
  obtain ⟨K, hK⟩ := sams_self (a := XMg.mrg merge_Samples.key (a ++ (b ++ c))) (by omega)
  refine ⟨K, ?_⟩
  unfold lysimeterlaw18_MergeTwice.f
  rw [if_pos ⟨alive18_ev, by omega, by omega, by omega⟩]
  by_cases h : a.length + b.length + c.length > 600
  · rw [if_pos h]
  · rw [if_neg h, mrg_left, mrg_right, mrg_again, if_pos ⟨hK K (Nat.le_refl _), hK K (Nat.le_refl _), hK K (Nat.le_refl _)⟩]

end Go.Proofs.Ytjilnpbgclnecac.Pure
