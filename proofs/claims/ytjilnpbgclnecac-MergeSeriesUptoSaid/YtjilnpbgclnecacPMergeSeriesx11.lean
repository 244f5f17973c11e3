/- Written by a program of this session out of the translation: for Go functions Lean functions of the same answers, and the proof that the calls come to these answers. -/
import Derived.Deep.QuietTactic
import Derived.Test.YtjilnpbgclnecacXPure
import Derived.Test.YtjilnpbgclnecacXHand
import Derived.Test.YtjilnpbgclnecacXFull
import Derived.Test.YtjilnpbgclnecacXLab
import Derived.Test.YtjilnpbgclnecacXSer
import Derived.Test.YtjilnpbgclnecacPMergeSeriesx0
import Derived.Test.YtjilnpbgclnecacPMergeSeriesx4
import Derived.Test.YtjilnpbgclnecacPMergeSeriesx7
import Derived.Test.YtjilnpbgclnecacPMergeSeriesx9
import Derived.Test.YtjilnpbgclnecacPMergeSeriesx10
namespace Go.Proofs.Ytjilnpbgclnecac.PMergeSeries
open Go.RowKit Go.Proofs.YtjilnpbgclnecacW.PrintWords Go.Proofs.YtjilnpbgclnecacW.PrintLast Go.Proofs.YtjilnpbgclnecacW.PrintMore Go.Proofs.Ytjilnpbgclnecac.XB
attribute [local go_sem] sg_u8 sg_u16 sg_u32 sg_u64 mx_u8 mx_u16 mx_u32 mx_u64
attribute [local go_sem] max2_int min2_int max_two min_two max_three min_three max_four min_four   -- for this text's walks alone
set_option linter.unusedVariables false
set_option linter.unusedSimpArgs false

/-! ### lysimeterref16_MergeSeries: function 47 -/
def lysimeterref16_MergeSeries.f (l0 : List (List S78)) : Option (List S78) := if merge_Series.fits l0 then some (merge_Series.ser l0.flatten) else none
-- WALK
-- leans on lysimeterref11_PutSample.calls
section
namespace rms
open Go.Proofs.Ytjilnpbgclnecac.XP
theorem rdS_nat {l : List S54} {i : Nat} (h : i < l.length) : rd_T54 l (i : Int) = l[i] := by
  unfold rd_T54
  rw [Int.toNat_natCast, List.getD_eq_getElem?_getD, List.getElem?_eq_getElem h]; rfl
theorem rdL_nat {l : List (List S54)} {i : Nat} (h : i < l.length) : rd_L2 l (i : Int) = l[i] := by
  unfold rd_L2
  rw [Int.toNat_natCast, List.getD_eq_getElem?_getD, List.getElem?_eq_getElem h]; rfl
theorem wiS {i n : Nat} (h : i < n) (hn : n ≤ 1152921504606846976) : wrap64 ((i : Int) + 1) = ((i + 1 : Nat) : Int) := by rw [w64 (by omega) (by omega)]; omega
/-! ### a sample put in: the reference -/
theorem mkS (s : S54) : (⟨s.f0, s.f1⟩ : S54) = s := rfl
theorem putS_nil {s : S54} : Go.Proofs.Ytjilnpbgclnecac.XMg.put merge_Samples.key [] s = [s] := rfl
theorem putS_cons {x s : S54} {l : List S54} : Go.Proofs.Ytjilnpbgclnecac.XMg.put merge_Samples.key (x :: l) s = if s.f0 < x.f0 then s :: x :: l else if s.f0 = x.f0 then s :: l else x :: Go.Proofs.Ytjilnpbgclnecac.XMg.put merge_Samples.key l s := rfl
theorem putsamp_l0 (l : List S54) (s : S54) (hn : l.length < 4398046511104) : ∀ (d i : Nat), i + d = l.length → Ev (fun k => lysimeterref11_PutSample.l0 k l (i : Int) s.f0 s.f1) (l.take i ++ Go.Proofs.Ytjilnpbgclnecac.XMg.put merge_Samples.key (l.drop i) s) := by
  intro d
  induction d with
  | zero =>
    intro i hi
    have hj : Ev (fun k => lysimeterref11_PutSample.j1 k l (i : Int) s.f0 s.f1) (l.take i ++ [s]) := by
      refine Ev.step (f := fun _ => some (l.take i ++ [s])) (fun k => ?_) (Ev.now _)
      rw [lysimeterref11_PutSample.j1, if_pos (by ((try simp only [Int.toNat_natCast, List.length_append, List.length_take, List.length_drop, List.length_nil, List.length_cons, List.nil_append]); omega)), if_pos (by ((try simp only [Int.toNat_natCast, List.length_append, List.length_take, List.length_drop, List.length_nil, List.length_cons, List.nil_append]); omega)), Option.bind_some, if_pos (by ((try simp only [Int.toNat_natCast, List.length_append, List.length_take, List.length_drop, List.length_nil, List.length_cons, List.nil_append]); omega)), Option.bind_some, Option.bind_some, if_pos (by ((try simp only [Int.toNat_natCast, List.length_append, List.length_take, List.length_drop, List.length_nil, List.length_cons, List.nil_append]); omega)), Option.bind_some, if_neg (by ((try simp only [Int.toNat_natCast, List.length_append, List.length_take, List.length_drop, List.length_nil, List.length_cons, List.nil_append]); omega)), Option.bind_some, if_pos (by ((try simp only [Int.toNat_natCast, List.length_append, List.length_take, List.length_drop, List.length_nil, List.length_cons, List.nil_append]); omega)), Int.toNat_natCast, List.drop_of_length_le (by omega), List.append_nil, List.nil_append, mkS]
    rw [List.drop_of_length_le (by omega), putS_nil]
    refine Ev.step (f := fun k => lysimeterref11_PutSample.j1 k l (i : Int) s.f0 s.f1) (fun k => ?_) hj
    simp only [lysimeterref11_PutSample.l0]
    rw [if_neg (by omega)]
  | succ d ih =>
    intro i hi
    have hlt : i < l.length := by omega
    by_cases h1 : l[i].f0 < s.f0
    · refine Ev.step (f := fun k => lysimeterref11_PutSample.l0 k l ((i + 1 : Nat) : Int) s.f0 s.f1) (fun k => ?_) (ev_eq (ih (i + 1) (by omega)) ?_)
      · simp only [lysimeterref11_PutSample.l0]
        rw [if_pos (by omega), if_pos (by omega), rdS_nat hlt, if_pos h1, wiS hlt (by omega)]
      · rw [List.drop_eq_getElem_cons hlt, putS_cons, if_neg (by omega), if_neg (by omega), List.take_succ_eq_append_getElem hlt, List.append_assoc]
        rfl
    · have hj : Ev (fun k => lysimeterref11_PutSample.j1 k l (i : Int) s.f0 s.f1) (l.take i ++ Go.Proofs.Ytjilnpbgclnecac.XMg.put merge_Samples.key (l.drop i) s) := by
        rw [List.drop_eq_getElem_cons hlt, putS_cons]
        by_cases h2 : l[i].f0 = s.f0
        · rw [if_neg (by omega), if_pos h2.symm]
          refine Ev.step (f := fun _ => some (l.take i ++ s :: l.drop (i + 1))) (fun k => ?_) (Ev.now _)
          rw [lysimeterref11_PutSample.j1, if_pos (by ((try simp only [Int.toNat_natCast, List.length_append, List.length_take, List.length_drop, List.length_nil, List.length_cons, List.nil_append]); omega)), if_pos (by ((try simp only [Int.toNat_natCast, List.length_append, List.length_take, List.length_drop, List.length_nil, List.length_cons, List.nil_append]); omega)), Option.bind_some, if_pos (by ((try simp only [Int.toNat_natCast, List.length_append, List.length_take, List.length_drop, List.length_nil, List.length_cons, List.nil_append]); omega)), Option.bind_some, Option.bind_some, if_pos (by ((try simp only [Int.toNat_natCast, List.length_append, List.length_take, List.length_drop, List.length_nil, List.length_cons, List.nil_append]); omega)), Option.bind_some, if_pos (by ((try simp only [Int.toNat_natCast, List.length_append, List.length_take, List.length_drop, List.length_nil, List.length_cons, List.nil_append]); omega)), rdS_nat hlt, if_pos h2, wiS hlt (by omega), if_pos (by ((try simp only [Int.toNat_natCast, List.length_append, List.length_take, List.length_drop, List.length_nil, List.length_cons, List.nil_append]); omega)), if_pos (by ((try simp only [Int.toNat_natCast, List.length_append, List.length_take, List.length_drop, List.length_nil, List.length_cons, List.nil_append]); omega)), Option.bind_some, if_pos (by ((try simp only [Int.toNat_natCast, List.length_append, List.length_take, List.length_drop, List.length_nil, List.length_cons, List.nil_append]); omega)), Int.toNat_natCast, Int.toNat_natCast, List.nil_append, mkS, List.append_assoc]
          rfl
        · rw [if_pos (by omega)]
          refine Ev.step (f := fun _ => some (l.take i ++ s :: l[i] :: l.drop (i + 1))) (fun k => ?_) (Ev.now _)
          rw [lysimeterref11_PutSample.j1, if_pos (by ((try simp only [Int.toNat_natCast, List.length_append, List.length_take, List.length_drop, List.length_nil, List.length_cons, List.nil_append]); omega)), if_pos (by ((try simp only [Int.toNat_natCast, List.length_append, List.length_take, List.length_drop, List.length_nil, List.length_cons, List.nil_append]); omega)), Option.bind_some, if_pos (by ((try simp only [Int.toNat_natCast, List.length_append, List.length_take, List.length_drop, List.length_nil, List.length_cons, List.nil_append]); omega)), Option.bind_some, Option.bind_some, if_pos (by ((try simp only [Int.toNat_natCast, List.length_append, List.length_take, List.length_drop, List.length_nil, List.length_cons, List.nil_append]); omega)), Option.bind_some, if_pos (by ((try simp only [Int.toNat_natCast, List.length_append, List.length_take, List.length_drop, List.length_nil, List.length_cons, List.nil_append]); omega)), rdS_nat hlt, if_neg h2, Option.bind_some, if_pos (by ((try simp only [Int.toNat_natCast, List.length_append, List.length_take, List.length_drop, List.length_nil, List.length_cons, List.nil_append]); omega)), Int.toNat_natCast, List.nil_append, mkS, List.append_assoc, List.drop_eq_getElem_cons hlt]
          rfl
      refine Ev.step (f := fun k => lysimeterref11_PutSample.j1 k l (i : Int) s.f0 s.f1) (fun k => ?_) hj
      simp only [lysimeterref11_PutSample.l0]
      rw [if_pos (by omega), if_pos (by omega), rdS_nat hlt, if_neg h1]
theorem putsamp_ev {l : List S54} (s : S54) (hn : l.length < 4398046511104) : Ev (fun k => lysimeterref11_PutSample.f k l s.f0 s.f1) (Go.Proofs.Ytjilnpbgclnecac.XMg.put merge_Samples.key l s) := by
  unfold lysimeterref11_PutSample.f
  exact putsamp_l0 l s hn l.length 0 (by omega)
/-! ### many lists put together: the reference -/
theorem refmerge_l (x : List (List S54)) (hx : x.length ≤ 1152921504606846976) : ∀ (d i : Nat), i + d = x.length → ∀ acc : List S54, acc.length + ((x.drop i).flatten).length < 4398046511104 → Ev (fun k => lysimeterref16_Merge.l0 k x acc (i : Int)) (((x.drop i).flatten).foldl (Go.Proofs.Ytjilnpbgclnecac.XMg.put merge_Samples.key) acc) := by
  intro d
  induction d with
  | zero =>
    intro i hi acc hb
    rw [List.drop_of_length_le (by omega)]
    refine Ev.step (f := fun _ => some acc) (fun k => ?_) (Ev.now _)
    simp only [lysimeterref16_Merge.l0]
    rw [if_neg (by omega)]
  | succ d ih =>
    intro i hi acc hb
    have hlt : i < x.length := by omega
    rw [List.drop_eq_getElem_cons hlt, List.flatten_cons] at hb ⊢
    rw [List.length_append] at hb
    rw [List.foldl_append]
    have inner : ∀ (e j : Nat), j + e = x[i].length → ∀ acc : List S54, acc.length + e + ((x.drop (i + 1)).flatten).length < 4398046511104 → Ev (fun k => lysimeterref16_Merge.l1 k x acc (i : Int) (j : Int)) (((x.drop (i + 1)).flatten).foldl (Go.Proofs.Ytjilnpbgclnecac.XMg.put merge_Samples.key) ((x[i].drop j).foldl (Go.Proofs.Ytjilnpbgclnecac.XMg.put merge_Samples.key) acc)) := by
      intro e
      induction e with
      | zero =>
        intro j hj acc hb
        rw [List.drop_of_length_le (by omega)]
        refine Ev.step (f := fun k => lysimeterref16_Merge.l0 k x acc ((i + 1 : Nat) : Int)) (fun k => ?_) (ih (i + 1) (by omega) acc (by omega))
        simp only [lysimeterref16_Merge.l1]
        rw [if_pos (by omega), if_pos (by omega), rdL_nat hlt, if_neg (by omega), wiS hlt hx]
      | succ e ihe =>
        intro j hj acc hb
        have hjl : j < x[i].length := by omega
        rw [List.drop_eq_getElem_cons hjl, List.foldl_cons]
        have hput := putsamp_ev (l := acc) x[i][j] (by omega)
        have hpl := Go.Proofs.Ytjilnpbgclnecac.XMg.put_len (key := merge_Samples.key) acc x[i][j]
        refine Ev.step (f := fun k => (lysimeterref11_PutSample.f k acc x[i][j].f0 x[i][j].f1).bind fun t => lysimeterref16_Merge.l1 k x t (i : Int) ((j + 1 : Nat) : Int)) (fun k => ?_) (Ev.bind hput (ihe (j + 1) (by omega) _ (by omega)))
        simp only [lysimeterref16_Merge.l1]
        rw [if_pos (by omega), if_pos (by omega), rdL_nat hlt, if_pos (by omega), if_pos (by omega), rdS_nat hjl, wiS hjl (by omega)]
    refine Ev.step (f := fun k => lysimeterref16_Merge.l1 k x acc (i : Int) 0) (fun k => ?_) (inner x[i].length 0 (by omega) acc (by omega))
    simp only [lysimeterref16_Merge.l0]
    rw [if_pos (by omega)]
theorem refmerge_ev {x : List (List S54)} (hx : x.length ≤ 1152921504606846976) (hb : x.flatten.length < 4398046511104) : Ev (fun k => lysimeterref16_Merge.f k x) (Go.Proofs.Ytjilnpbgclnecac.XMg.mrg merge_Samples.key x.flatten) := by
  unfold lysimeterref16_Merge.f
  exact refmerge_l x hx x.length 0 (by omega) [] (by simpa using hb)
/-! ### labels compared: the reference -/
theorem refless (a b : ByteArray) : lysimeterref11_less.f a b = some (Go.Proofs.Ytjilnpbgclnecac.XLab.sc a.toList b.toList) := by
  unfold lysimeterref11_less.f Go.Proofs.Ytjilnpbgclnecac.XLab.sc
  split
  · rfl
  · split <;> rfl
theorem refcmp_l0 (a b : List S63) (hn : a.length < 9223372036854775807) : ∀ (d i : Nat), i + d = a.length → i ≤ b.length → Ev (fun k => lysimeterref11_Cmp.l0 k a b (i : Int)) (Go.Proofs.Ytjilnpbgclnecac.XLab.lc (merge_Series.labs (a.drop i)) (merge_Series.labs (b.drop i))) := by
  have hend : ∀ i : Nat, i ≤ a.length → i ≤ b.length → (a.length ≤ i ∨ b.length ≤ i) → Ev (fun k => lysimeterref11_Cmp.j1 k a b (i : Int) false) (Go.Proofs.Ytjilnpbgclnecac.XLab.lc (merge_Series.labs (a.drop i)) (merge_Series.labs (b.drop i))) := by
    intro i ha hb hh
    refine Ev.step (f := fun _ => if (a.length : Int) < (b.length : Int) then some (-1) else (if (a.length : Int) > (b.length : Int) then some 1 else some 0)) (fun k => ?_) ?_
    · rw [lysimeterref11_Cmp.j1, if_neg (by decide)]
    · by_cases h1 : a.length ≤ i
      · rw [List.drop_of_length_le h1]
        by_cases h2 : b.length ≤ i
        · rw [List.drop_of_length_le h2]
          exact ev_if_neg (by omega) (ev_if_neg (by omega) (Ev.now _))
        · rw [merge_Series.labs_drop b (by omega)]
          exact ev_if_pos (by omega) (Ev.now _)
      · rw [List.drop_of_length_le (show b.length ≤ i by omega), merge_Series.labs_drop a (by omega)]
        exact ev_if_neg (by omega) (ev_if_pos (by omega) (Ev.now _))
  intro d
  induction d with
  | zero =>
    intro i hi hb
    refine Ev.step (f := fun k => lysimeterref11_Cmp.j1 k a b (i : Int) false) (fun k => ?_) (hend i (by omega) hb (.inl (by omega)))
    rw [lysimeterref11_Cmp.l0, if_neg (by omega)]
  | succ d ih =>
    intro i hi hb
    have h1 : i < a.length := by omega
    by_cases h2 : i < b.length
    · rw [merge_Series.labs_drop a h1, merge_Series.labs_drop b h2]
      refine Ev.step (f := fun k => lysimeterref11_Cmp.j1 k a b (i : Int) true) (fun k => ?_) ?_
      · rw [lysimeterref11_Cmp.l0, if_pos (by omega), decide_eq_true (by omega)]
      · have j2 : ∀ t, Ev (fun k => lysimeterref11_Cmp.j2 k a b (i : Int) t) (if t = 0 then Go.Proofs.Ytjilnpbgclnecac.XLab.lc (merge_Series.labs (a.drop (i + 1))) (merge_Series.labs (b.drop (i + 1))) else t) := by
          intro t
          refine Ev.step (f := fun k => if t = 0 then lysimeterref11_Cmp.l0 k a b ((i + 1 : Nat) : Int) else some t) (fun k => ?_) ?_
          · rw [lysimeterref11_Cmp.j2, show wrap64 ((i : Int) + 1) = ((i + 1 : Nat) : Int) from by rw [w64 (by omega) (by omega)]; omega]
          · by_cases ht : t = 0
            · rw [if_pos ht]; exact ev_if_pos ht (ih (i + 1) (by omega) (by omega))
            · rw [if_neg ht]; exact ev_if_neg ht (Ev.now _)
        refine Ev.step (f := fun k => (lysimeterref11_less.f a[i].f0 b[i].f0).bind fun t196 => if t196 = 0 then (lysimeterref11_less.f a[i].f1 b[i].f1).bind fun t199 => lysimeterref11_Cmp.j2 k a b (i : Int) t199 else lysimeterref11_Cmp.j2 k a b (i : Int) t196) (fun k => ?_) (ev_one_bind (refless _ _) ?_)
        · rw [lysimeterref11_Cmp.j1, if_pos rfl, if_pos (by omega), if_pos (by omega), if_pos (by omega), merge_Series.rdB h1, merge_Series.rdB h2]
        · by_cases z1 : Go.Proofs.Ytjilnpbgclnecac.XLab.sc a[i].f0.toList b[i].f0.toList = 0
          · refine ev_if_pos z1 (ev_one_bind (refless _ _) (ev_eq (j2 _) ?_))
            by_cases z2 : Go.Proofs.Ytjilnpbgclnecac.XLab.sc a[i].f1.toList b[i].f1.toList = 0 <;> simp [Go.Proofs.Ytjilnpbgclnecac.XLab.lc, z1, z2]
          · exact ev_if_neg z1 (ev_eq (j2 _) (by simp [Go.Proofs.Ytjilnpbgclnecac.XLab.lc, z1]))
    · refine Ev.step (f := fun k => lysimeterref11_Cmp.j1 k a b (i : Int) false) (fun k => ?_) (hend i (by omega) hb (.inr (by omega)))
      rw [lysimeterref11_Cmp.l0, if_pos (by omega), decide_eq_false (by omega)]
theorem refcmp_ev {a b : List S63} (ha : a.length < 9223372036854775807) : Ev (fun k => lysimeterref11_Cmp.f k a b) (Go.Proofs.Ytjilnpbgclnecac.XLab.lc (merge_Series.labs a) (merge_Series.labs b)) := by
  unfold lysimeterref11_Cmp.f
  exact refcmp_l0 a b ha a.length 0 (by omega) (Nat.zero_le _)
theorem cmp_ev {a b : List S63} (ha : a.length < 9223372036854775807) : ∃ k, lysimeterref11_Cmp.f k a b = some (merge_Series.c a b) := (refcmp_ev ha).rounds
theorem merge_ev {x : List (List S54)} (hx : x.length ≤ 1152921504606846976) (hb : x.flatten.length < 4398046511104) : ∃ k, lysimeterref16_Merge.f k x = some (Go.Proofs.Ytjilnpbgclnecac.XMg.mrg merge_Samples.key x.flatten) := (refmerge_ev hx hb).rounds
end rms
end
/-! ### the reference: series put in one by one -/
section
open Go.Proofs.Ytjilnpbgclnecac.XH
theorem rms.ins_take {x : List S63 × List S54} : ∀ (n : Nat) (out : List (List S63 × List S54)), (∀ y ∈ out.take n, merge_Series.c y.1 x.1 < 0) → Go.Proofs.Ytjilnpbgclnecac.XSer.ins merge_Series.c merge_Samples.key out x = out.take n ++ Go.Proofs.Ytjilnpbgclnecac.XSer.ins merge_Series.c merge_Samples.key (out.drop n) x
  | 0, out, _ => rfl
  | n + 1, [], _ => rfl
  | n + 1, (a, s) :: out, h => by
    have h1 : merge_Series.c a x.1 < 0 := h (a, s) List.mem_cons_self
    rw [Go.Proofs.Ytjilnpbgclnecac.XSer.ins, if_pos h1, rms.ins_take n out (fun y hy => h y (List.mem_cons_of_mem _ hy))]
    rfl
theorem rms.refser_snoc (all : List (List S63 × List S54)) (x : List S63 × List S54) : Go.Proofs.Ytjilnpbgclnecac.XSer.refser merge_Series.c merge_Samples.key (all ++ [x]) = if x.2.isEmpty then Go.Proofs.Ytjilnpbgclnecac.XSer.refser merge_Series.c merge_Samples.key all else Go.Proofs.Ytjilnpbgclnecac.XSer.ins merge_Series.c merge_Samples.key (Go.Proofs.Ytjilnpbgclnecac.XSer.refser merge_Series.c merge_Samples.key all) x := by
  unfold Go.Proofs.Ytjilnpbgclnecac.XSer.refser
  rw [List.foldl_append]
  rfl
def rms.tot (l : List S78) : Nat := (l.map fun x => x.f1.length).sum
theorem rms.tot_append (a b : List S78) : rms.tot (a ++ b) = rms.tot a + rms.tot b := by unfold rms.tot; rw [List.map_append, List.sum_append]
theorem rms.tot_one (x : S78) : rms.tot [x] = x.f1.length := by simp [rms.tot]
structure rms.St (w W : World) (dn : List S78) (v3 : Value) (out : List S78) : Prop where
  val : out.map merge_Series.pr = Go.Proofs.Ytjilnpbgclnecac.XSer.refser merge_Series.c merge_Samples.key (dn.map merge_Series.pr)
  row : Kd.R k78 78 W w.heap.size (fun _ => True) v3 out
  below : Below w.heap.size w W
  len : out.length ≤ dn.length
  tot : ∀ x ∈ out, x.f1.length ≤ rms.tot dn
  lab : ∀ x ∈ out, x.f0.length < 1099511627776
theorem rms.St.on {w W W' : World} {dn : List S78} {v3 : Value} {out : List S78} (h : rms.St w W dn v3 out) (hb : Below W.heap.size W W') : rms.St w W' dn v3 out := ⟨h.val, Kd.R_below h.row hb, below_step h.below hb, h.len, h.tot, h.lab⟩
theorem rms.St.skip {w W : World} {dn : List S78} {v3 : Value} {out : List S78} {e : S78} (h : rms.St w W dn v3 out) (he : e.f1 = []) : rms.St w W (dn ++ [e]) v3 out :=
  ⟨by rw [List.map_append, List.map_cons, List.map_nil, rms.refser_snoc, h.val, if_pos (by show e.f1.isEmpty = true; rw [he]; rfl)], h.row, h.below, by have := h.len; rw [List.length_append]; omega, fun x hx => by have := h.tot x hx; rw [rms.tot_append]; omega, h.lab⟩
/-- A series that is there. -/
theorem rms.St.same {w W W' : World} {dn : List S78} {v3 : Value} {out : List S78} {e : S78} {n : Nat} (h : rms.St w W dn v3 out) (he : e.f1 ≠ []) (hlt : n < out.length) (hl : ∀ y ∈ out.take n, merge_Series.c y.f0 e.f0 < 0) (h0 : merge_Series.c out[n].f0 e.f0 = 0) (hb : Below w.heap.size w W')
    (hr : Kd.R k78 78 W' w.heap.size (fun _ => True) v3 (out.set n ⟨out[n].f0, Go.Proofs.Ytjilnpbgclnecac.XMg.mrg merge_Samples.key (out[n].f1 ++ e.f1)⟩)) : rms.St w W' (dn ++ [e]) v3 (out.set n ⟨out[n].f0, Go.Proofs.Ytjilnpbgclnecac.XMg.mrg merge_Samples.key (out[n].f1 ++ e.f1)⟩) := by
  have hmem : ∀ x ∈ out.set n ⟨out[n].f0, Go.Proofs.Ytjilnpbgclnecac.XMg.mrg merge_Samples.key (out[n].f1 ++ e.f1)⟩, x ∈ out ∨ x = ⟨out[n].f0, Go.Proofs.Ytjilnpbgclnecac.XMg.mrg merge_Samples.key (out[n].f1 ++ e.f1)⟩ := fun x hx => List.mem_or_eq_of_mem_set hx
  refine ⟨?_, hr, hb, by rw [List.length_set, List.length_append]; have := h.len; omega, fun x hx => ?_, fun x hx => ?_⟩
  · rw [List.map_append, List.map_cons, List.map_nil, rms.refser_snoc, if_neg (by show ¬ e.f1.isEmpty = true; simpa using he), ← h.val, rms.ins_take n _ (fun y hy => by
      rw [← List.map_take] at hy
      obtain ⟨z, hz, rfl⟩ := List.mem_map.1 hy
      exact hl z hz), ← List.map_take, ← List.map_drop, List.drop_eq_getElem_cons hlt, List.map_cons]
    have e1 : Go.Proofs.Ytjilnpbgclnecac.XSer.ins merge_Series.c merge_Samples.key (merge_Series.pr out[n] :: (out.drop (n + 1)).map merge_Series.pr) (merge_Series.pr e) = (out[n].f0, Go.Proofs.Ytjilnpbgclnecac.XMg.mrg merge_Samples.key (out[n].f1 ++ e.f1)) :: (out.drop (n + 1)).map merge_Series.pr := by
      show Go.Proofs.Ytjilnpbgclnecac.XSer.ins merge_Series.c merge_Samples.key ((out[n].f0, out[n].f1) :: (out.drop (n + 1)).map merge_Series.pr) (e.f0, e.f1) = _
      rw [Go.Proofs.Ytjilnpbgclnecac.XSer.ins, if_neg (by show ¬ merge_Series.c out[n].f0 e.f0 < 0; omega), if_pos h0]
    rw [e1, List.set_eq_take_append_cons_drop, if_pos hlt, List.map_append, List.map_cons]
    rfl
  · rw [rms.tot_append, rms.tot_one]
    rcases hmem x hx with hx | rfl
    · have := h.tot x hx; omega
    · have h1 := Go.Proofs.Ytjilnpbgclnecac.XMg.mrg_len (key := merge_Samples.key) (out[n].f1 ++ e.f1)
      have h2 := h.tot out[n] (List.getElem_mem hlt)
      rw [List.length_append] at h1
      show (Go.Proofs.Ytjilnpbgclnecac.XMg.mrg merge_Samples.key (out[n].f1 ++ e.f1)).length ≤ _
      omega
  · rcases hmem x hx with hx | rfl
    · exact h.lab x hx
    · exact h.lab out[n] (List.getElem_mem hlt)
/-- A series that is none yet. -/
theorem rms.St.new {w W W' : World} {dn : List S78} {v3 v3' : Value} {out : List S78} {e : S78} {n : Nat} (h : rms.St w W dn v3 out) (he : e.f1 ≠ []) (hle : n ≤ out.length) (hl : ∀ y ∈ out.take n, merge_Series.c y.f0 e.f0 < 0) (h0 : ∀ hlt : n < out.length, 0 < merge_Series.c out[n].f0 e.f0) (hel : e.f0.length < 1099511627776) (hb : Below w.heap.size w W')
    (hr : Kd.R k78 78 W' w.heap.size (fun _ => True) v3' (out.take n ++ [⟨e.f0, Go.Proofs.Ytjilnpbgclnecac.XMg.mrg merge_Samples.key e.f1⟩] ++ out.drop n)) : rms.St w W' (dn ++ [e]) v3' (out.take n ++ [⟨e.f0, Go.Proofs.Ytjilnpbgclnecac.XMg.mrg merge_Samples.key e.f1⟩] ++ out.drop n) := by
  have hmem : ∀ x ∈ out.take n ++ [(⟨e.f0, Go.Proofs.Ytjilnpbgclnecac.XMg.mrg merge_Samples.key e.f1⟩ : S78)] ++ out.drop n, x ∈ out ∨ x = ⟨e.f0, Go.Proofs.Ytjilnpbgclnecac.XMg.mrg merge_Samples.key e.f1⟩ := fun x hx => by
    rcases List.mem_append.1 hx with hx | hx
    · rcases List.mem_append.1 hx with hx | hx
      · exact .inl (List.mem_of_mem_take hx)
      · exact .inr (List.mem_singleton.1 hx)
    · exact .inl (List.mem_of_mem_drop hx)
  refine ⟨?_, hr, hb, ?_, fun x hx => ?_, fun x hx => ?_⟩
  · rw [List.map_append (l₁ := dn), List.map_cons, List.map_nil, rms.refser_snoc, if_neg (by show ¬ e.f1.isEmpty = true; simpa using he), ← h.val, rms.ins_take n _ (fun y hy => by
      rw [← List.map_take] at hy
      obtain ⟨z, hz, rfl⟩ := List.mem_map.1 hy
      exact hl z hz), ← List.map_take, ← List.map_drop]
    have e1 : Go.Proofs.Ytjilnpbgclnecac.XSer.ins merge_Series.c merge_Samples.key ((out.drop n).map merge_Series.pr) (merge_Series.pr e) = (e.f0, Go.Proofs.Ytjilnpbgclnecac.XMg.mrg merge_Samples.key e.f1) :: (out.drop n).map merge_Series.pr := by
      by_cases hlt : n < out.length
      · rw [List.drop_eq_getElem_cons hlt, List.map_cons]
        show Go.Proofs.Ytjilnpbgclnecac.XSer.ins merge_Series.c merge_Samples.key ((out[n].f0, out[n].f1) :: (out.drop (n + 1)).map merge_Series.pr) (e.f0, e.f1) = _
        have := h0 hlt
        rw [Go.Proofs.Ytjilnpbgclnecac.XSer.ins, if_neg (by show ¬ merge_Series.c out[n].f0 e.f0 < 0; omega), if_neg (by show ¬ merge_Series.c out[n].f0 e.f0 = 0; omega)]
        rfl
      · rw [List.drop_of_length_le (by omega)]
        rfl
    rw [e1, List.map_append, List.map_append, List.append_assoc]
    rfl
  · simp only [List.length_append, List.length_take, List.length_drop, List.length_singleton]
    have := h.len
    omega
  · rw [rms.tot_append, rms.tot_one]
    rcases hmem x hx with hx | rfl
    · have := h.tot x hx; omega
    · have h1 := Go.Proofs.Ytjilnpbgclnecac.XMg.mrg_len (key := merge_Samples.key) e.f1
      show (Go.Proofs.Ytjilnpbgclnecac.XMg.mrg merge_Samples.key e.f1).length ≤ _
      omega
  · rcases hmem x hx with hx | rfl
    · exact h.lab x hx
    · exact hel
/-- The samples of an element written anew. -/
theorem rms.store {W : World} {base g n cap : Nat} {xs : List S78} {i : Nat} {v : Value} {s' : List S54} (h : Kd.R k78 78 W base (fun _ => True) (.slice (some ⟨g, 0, none⟩) n cap) xs) (hi : i < xs.length) (hv : Kd.R k54 54 W base (fun k => k ≠ g) v s') :
    ∃ y, W.cell? ⟨g, i * 2 + 1, none⟩ = some y ∧ W.frozen? ⟨g, i * 2 + 1, none⟩ = false ∧ Kd.R k78 78 (W.setCell ⟨g, i * 2 + 1, none⟩ v) base (fun _ => True) (.slice (some ⟨g, 0, none⟩) n cap) (xs.set i ⟨xs[i].f0, s'⟩) ∧ W.grownBy (W.setCell ⟨g, i * 2 + 1, none⟩ v) (some g) := by
  obtain ⟨hn, _, _⟩ := Kd.R_reads' h
  obtain ⟨_, inner, hown, hrep⟩ := id h
  have hm := hrep.2 i xs[i] (List.getElem?_eq_getElem hi)
  obtain ⟨v0, v1, hcs, hr0, hr1⟩ := k78_openM hm
  have hc := World.ownsRow.cells (g := g) hown rfl
  have hcc : ∀ j u, [v0, v1][j]? = some u → W.cell? ⟨g, (i : Int).toNat * k78.sz + j, none⟩ = some u := by
    intro j u hu
    rw [← hcs, List.getElem?_take] at hu
    split at hu
    · rw [List.getElem?_drop] at hu
      have := hc _ _ hu
      rw [Int.toNat_natCast]
      rwa [add_plain] at this
    · cases hu
  have hseg := Kd.R_seg (okp := fun k => k ≠ g) (j := 1) (seg := [v]) (x' := ⟨xs[i].f0, s'⟩) h (i : Int) (by omega) (by omega) (c := [v0, v1]) rfl hcc (Nat.le_refl 2) (k78_mkM _ _ _ ⟨xs[i].f0, s'⟩ (Kd.R_mono hr0 (fun k hk => fun e => hk.2 (by rw [e]; rfl))) hv) (fun k hk => ⟨trivial, hk⟩)
  obtain ⟨cur, hh⟩ := own_typed hown g rfl
  rw [Int.toNat_natCast] at hseg
  exact ⟨v1, by have := hcc 1 v1 rfl; rwa [Int.toNat_natCast] at this, blk_frozen hh _, hseg⟩
end
section
open Go.Proofs.Ytjilnpbgclnecac.XH
theorem rms.flat_take {l0 : List (List S78)} {i : Nat} (h : i < l0.length) : (l0.take (i + 1)).flatten = (l0.take i).flatten ++ l0[i] := by
  rw [List.take_succ_eq_append_getElem h, List.flatten_append]
  simp
theorem rms.tot_le (l0 : List (List S78)) (i k : Nat) (h : i < l0.length) : ((l0.take i).flatten ++ l0[i].take k).length ≤ l0.flatten.length ∧ rms.tot ((l0.take i).flatten ++ l0[i].take k) ≤ rms.tot l0.flatten := by
  have e : l0.flatten = (l0.take i).flatten ++ l0[i].take k ++ (l0[i].drop k ++ (l0.drop (i + 1)).flatten) := by
    conv => lhs; rw [← List.take_append_drop (i + 1) l0, List.flatten_append, rms.flat_take h]
    rw [List.append_assoc, List.append_assoc, ← List.append_assoc (l0[i].take k), List.take_append_drop]
  rw [e]
  exact ⟨by simp only [List.length_append]; omega, by rw [rms.tot_append (_ ++ _)]; omega⟩
/-- A literal of two rows, handed to the reference's Merge. -/
theorem rms.mergeTwo {W : World} {A B : Option Addr} {c d : Nat} {s t : List S54} (hs : Kd.C k54 W A s.length s) (hc : s.length ≤ c) (ht : Kd.C k54 W B t.length t) (hd : t.length ≤ d) (hl : s.length + t.length < 4398046511104) :
    Calls Try.prog 40 #[.slice (some ⟨W.heap.size, 0, none⟩) 2 2] (W.alloc (.cells #[.slice A s.length c, .slice B t.length d] 60)) fun e w' => ∃ v, e = .returned v ∧ Kd.R k54 54 w' (W.heap.size + 1) (fun _ => True) v (Go.Proofs.Ytjilnpbgclnecac.XMg.mrg merge_Samples.key (s ++ t)) ∧ Below W.heap.size W w' := by
  have hb : Below W.heap.size W (W.alloc (.cells #[.slice A s.length c, .slice B t.length d] 60)) := below_alloc (Below.refl _ _) _
  have hblk : (W.alloc (.cells #[.slice A s.length c, .slice B t.length d] 60)).heap[W.heap.size]? = some (.cells #[.slice A s.length c, .slice B t.length d] 60 (0, 0)) := blk_new _ _
  have hC : Kd.C (Kd.slice 54 k54) (W.alloc (.cells #[.slice A s.length c, .slice B t.length d] 60)) (some ⟨W.heap.size, 0, none⟩) 2 [s, t] := by
    refine ⟨rfl, by omega, fun _ => ⟨_, rfl, fun j p hj => ?_⟩⟩
    rcases j with _ | _ | j
    · injection hj with hj
      subst hj
      refine ⟨[.slice A s.length c], rfl, ⟨A, c, rfl, hc, Kd.C_below hs hb⟩, fun i u hu => ?_⟩
      rcases i with _ | i
      · rw [add_plain, blk_cell hblk]
        exact hu
      · simp at hu
    · injection hj with hj
      subst hj
      refine ⟨[.slice B t.length d], rfl, ⟨B, d, rfl, hd, Kd.C_below ht hb⟩, fun i u hu => ?_⟩
      rcases i with _ | i
      · rw [add_plain, blk_cell hblk]
        exact hu
      · simp at hu
    · cases hj
  obtain ⟨k, hk⟩ := rms.merge_ev (x := [s, t]) (by simp) (by simpa using hl)
  refine (lysimeterref16_Merge.calls k (some ⟨W.heap.size, 0, none⟩) 2 [s, t] _ _ hC (Nat.le_refl 2) hk).mono ?_
  rintro e w' ⟨v, rfl, hr, hb2⟩
  refine ⟨v, rfl, ?_, below_step hb hb2⟩
  have e : (W.alloc (.cells #[.slice A s.length c, .slice B t.length d] 60)).heap.size = W.heap.size + 1 := by simp
  rw [e] at hr
  simpa using hr
/-- A literal of one row, handed to the reference's Merge. -/
theorem rms.mergeOne {W W1 : World} {g : Nat} {B : Option Addr} {d : Nat} {t : List S54} (hblk : W.heap[g]? = some (.cells #[.slice B t.length d] 60 (0, 0))) (ht : Kd.C k54 W B t.length t) (hd : t.length ≤ d) (hl : t.length < 4398046511104) :
    Calls Try.prog 40 #[.slice (some ⟨g, 0, none⟩) 1 1] W fun e w' => ∃ v, e = .returned v ∧ Kd.R k54 54 w' W.heap.size (fun _ => True) v (Go.Proofs.Ytjilnpbgclnecac.XMg.mrg merge_Samples.key t) ∧ Below W.heap.size W w' := by
  have hC : Kd.C (Kd.slice 54 k54) W (some ⟨g, 0, none⟩) 1 [t] := by
    refine ⟨rfl, by omega, fun _ => ⟨_, rfl, fun j p hj => ?_⟩⟩
    rcases j with _ | j
    · injection hj with hj
      subst hj
      refine ⟨[.slice B t.length d], rfl, ⟨B, d, rfl, hd, ht⟩, fun i u hu => ?_⟩
      rcases i with _ | i
      · rw [add_plain, blk_cell hblk]
        exact hu
      · simp at hu
    · cases hj
  obtain ⟨k, hk⟩ := rms.merge_ev (x := [t]) (by simp) (by simpa using hl)
  have := lysimeterref16_Merge.calls k (some ⟨g, 0, none⟩) 1 [t] _ _ hC (Nat.le_refl 1) hk
  simpa using this
set_option maxHeartbeats 8000000 in
set_option maxRecDepth 100000 in
theorem lysimeterref16_MergeSeries.calls (A0 : Option Addr) (c0 : Nat) (l0 : List (List S78)) (r : List S78) (w : World) (hr0 : Kd.C (Kd.slice 78 k78) w A0 l0.length l0) (hc0 : l0.length ≤ c0) (h : lysimeterref16_MergeSeries.f l0 = some r) :
    Calls Try.prog 47 #[.slice A0 l0.length c0] w fun e w' => ∃ v0_ : Value, e = .returned (v0_) ∧ Kd.R k78 78 w' w.heap.size (fun _ => True) v0_ r ∧ Below w.heap.size w w' := by
  unfold lysimeterref16_MergeSeries.f at h
  by_cases hfit : merge_Series.fits l0
  case neg => rw [if_neg hfit] at h; cases h
  rw [if_pos hfit] at h
  injection h with h
  have HR := Aside0.mk h
  have HF := Aside0.mk hfit
  have HC := Aside0.mk hr0
  have hml0 : l0.length ≤ 9223372036854775806 := by have := hfit.1; omega
  clear hr0 hc0 h hfit
  go_enter Try.func47, Try.ntmps47
  go_wp2_with fail
  go_loopg [3, 4] l0.length (fun kx v3 v4 wr => ∃ (i : Nat) (out : List S78), v4 = .int .i64 i ∧ i ≤ l0.length ∧ l0.length - i ≤ kx ∧ Aside0 (rms.St w wr (l0.take i).flatten v3 out))
  case atStart => exact ⟨0, [], rfl, Nat.zero_le _, Nat.le_refl _, ⟨⟨rfl, Kd.R_nil _ _ _ _ _, Below.refl _ _, Nat.le_refl _, (fun x hx => nomatch hx), (fun x hx => nomatch hx)⟩⟩⟩
  case round =>
    obtain ⟨i, out, rfl, hi, hkx, HS⟩ := hrel
    by_cases hlt : i < l0.length
    · have hltz : (i : Int) < (l0.length : Int) := by omega
      have hi0 : (0 : Int) ≤ (i : Int) := by omega
      obtain ⟨ad, A1, c1, hA, hx, hc1, hC1⟩ := at_L8 HC.out (i : Int) (by omega) hltz
      subst hA
      have hrd : rd_L8 l0 (i : Int) = l0[i] := by unfold rd_L8; simp [hlt]
      rw [hrd, Int.toNat_natCast] at hx
      rw [hrd] at hc1 hC1
      obtain ⟨x, hxe⟩ : ∃ x, x = l0[i] := ⟨_, rfl⟩
      have HXE := Aside0.mk hxe
      rw [← hxe] at hx hc1 hC1
      have HX := Aside0.mk hx
      have HC1 := Aside0.mk hC1
      have hxl : x.length ≤ 9223372036854775806 := by have := HF.out.2.1; have := (rms.tot_le l0 i x.length hlt).1; rw [← hxe, List.take_of_length_le (Nat.le_refl _), List.length_append] at this; omega
      clear hx hc1 hC1 hrd hxe
      go_upto_block 1 with fail
      go_cut [3] (fun v3 wx => ∃ out' : List S78, Aside0 (rms.St w wx ((l0.take i).flatten ++ x) v3 out'))
      case first =>
        go_wp2_with fail
        go_loopg [3, 5] x.length (fun kx v3 v5 wr => ∃ (k : Nat) (out : List S78), v5 = .int .i64 k ∧ k ≤ x.length ∧ x.length - k ≤ kx ∧ Aside0 (rms.St w wr ((l0.take i).flatten ++ x.take k) v3 out))
        case atStart => exact ⟨0, out, rfl, Nat.zero_le _, Nat.le_refl _, ⟨by rw [List.take_zero, List.append_nil]; exact HS.out⟩⟩
        case round =>
          clear HS
          obtain ⟨k, out, rfl, hk, hkx1, HS⟩ := hrel
          have z0 := pw_cell_below HS.out.below HX.out
          by_cases hlk : k < x.length
          · have hlkz : (k : Int) < (x.length : Int) := by omega
            have hk0 : (0 : Int) ≤ (k : Int) := by omega
            obtain ⟨ad1, LA, lc, SB, sd, hA1, y0, y1, hl1, hl2, hl3, hl4⟩ := at_T78 HC1.out (k : Int) hk0 hlkz
            subst hA1
            have hrd : rd_T78 x (k : Int) = x[k] := by unfold rd_T78; simp [hlk]
            rw [hrd] at y0 y1 hl1 hl2 hl3 hl4
            rw [Int.toNat_natCast] at y0 y1
            have y0' := pw_cell_below HS.out.below y0
            have y1' := pw_cell_below HS.out.below y1
            obtain ⟨e, hee⟩ : ∃ e, e = x[k] := ⟨_, rfl⟩
            rw [← hee] at y0' y1' hl1 hl2 hl3 hl4
            have HTK := Aside0.mk (show (l0.take i).flatten ++ x.take (k + 1) = ((l0.take i).flatten ++ x.take k) ++ [e] by rw [List.take_succ_eq_append_getElem hlk, ← hee, List.append_assoc])
            have HEL := Aside0.mk (show e.f0.length < 1099511627776 from HF.out.2.2.2 e (by rw [hee]; exact List.mem_flatten.2 ⟨x, by rw [HXE.out]; exact List.getElem_mem hlt, List.getElem_mem hlk⟩))
            have hb := (rms.tot_le l0 i (k + 1) hlt)
            rw [← HXE.out, HTK.out] at hb
            have HBT := Aside0.mk (show rms.tot (((l0.take i).flatten ++ x.take k) ++ [e]) < 1099511627776 from Nat.lt_of_le_of_lt hb.2 HF.out.2.2.1)
            have HBL := Aside0.mk (show (((l0.take i).flatten ++ x.take k) ++ [e]).length < 1099511627776 from Nat.lt_of_le_of_lt hb.1 HF.out.2.1)
            have HL1 := Aside0.mk (And.intro hl1 (And.intro hl2 (And.intro hl3 hl4)))
            obtain ⟨dn, hdn⟩ : ∃ dn, dn = (l0.take i).flatten ++ x.take k := ⟨_, rfl⟩
            rw [← hdn] at HS HTK HBT HBL
            clear y0 y1 hl1 hl2 hl3 hl4 hrd hee hdn hb
            go_upto_block 3 with fail
            go_cut [3] (fun v3 wx => ∃ out' : List S78, Aside0 (rms.St w wx (dn ++ [e]) v3 out'))
            case first =>
              go_upto_region 9 with fail
              refine cwp_world ?_
              intro W3 hW3
              have hb3 : Below wr.heap.size wr W3 := by rw [hW3]; exact below_alloc (Below.refl _ _) _
              have HBK := Aside0.mk (show W3.heap[wr.heap.size]? = some (.cells #[.slice LA e.f0.length lc, .slice SB e.f1.length sd] 78 (0, 0)) by rw [hW3]; exact blk_new _ _)
              have HG6 := Aside0.mk (show w.heap.size ≤ wr.heap.size from HS.out.below.size)
              have HS3 := Aside0.mk (HS.out.on hb3)
              have HNE := Aside0.mk (show some wr.heap.size ≠ u3.ownBlock from fun h => by have := Kd.R_lt HS.out.row _ h.symm; omega)
              obtain ⟨g6, hg6⟩ : ∃ g6, g6 = wr.heap.size := ⟨_, rfl⟩
              rw [← hg6] at HBK HG6 HNE ⊢
              clear hW3 hb3 hg6 HS y0' y1' z0
              have b0 : W3.cell? ⟨g6, 0, none⟩ = some (.slice LA e.f0.length lc) := (blk_cell HBK.out 0).trans rfl
              have b1 : W3.cell? ⟨g6, 1, none⟩ = some (.slice SB e.f1.length sd) := (blk_cell HBK.out 1).trans rfl
              by_cases he : e.f1.length = 0
              · have heb : ((e.f1.length : Int) == 0) = true := beq_iff_eq.mpr (by omega)
                have HE := Aside0.mk (List.eq_nil_of_length_eq_zero he)
                go_wp2_with fail
                go_meet
                case rel => exact ⟨out, ⟨HS3.out.skip HE.out⟩⟩
              · have heb : ((e.f1.length : Int) == 0) = false := beq_eq_false_iff_ne.mpr (by omega)
                have HE := Aside0.mk (show e.f1 ≠ [] from fun h => he (by rw [h]; rfl))
                clear he
                obtain ⟨A3, c3, e3⟩ := Kd.R_slice HS3.out.row
                subst e3
                have HC3 := Aside0.mk (Kd.R_reads' HS3.out.row).2
                have HML := Aside0.mk (show out.length < 1099511627776 by have := HS3.out.len; have := HBL.out; rw [List.length_append] at this; omega)
                have hol : out.length ≤ 9223372036854775806 := by have := HML.out; omega
                have HCMP := Aside0.mk (show ∀ (n : Nat) (hn : n < out.length) (W : World) (Av : Option Addr) (cv : Nat), Below W3.heap.size W3 W → Kd.C k63 W Av out[n].f0.length out[n].f0 → out[n].f0.length ≤ cv → Calls Try.prog 107 #[.slice Av out[n].f0.length cv, .slice LA e.f0.length lc] W fun e' w' => e' = .returned (.int .i64 (merge_Series.c out[n].f0 e.f0)) ∧ ∃ m, w' = W.drewN m from fun n hn W Av cv hbW hcv hcl => by
                  obtain ⟨kk, hkk⟩ := rms.cmp_ev (a := out[n].f0) (b := e.f0) (by have := HS3.out.lab _ (List.getElem_mem hn); omega)
                  refine (lysimeterref11_Cmp.calls kk Av cv out[n].f0 LA lc e.f0 _ W hcv hcl ?_ HL1.out.1 hkk).mono ?_
                  · exact Kd.C_below (Kd.C_below HL1.out.2.1 HS3.out.below) hbW
                  · rintro e' w' ⟨rfl, hd⟩
                    exact ⟨rfl, hd.out⟩)
                have HRD := Aside0.mk (show ∀ (n : Nat) (hn : n < out.length) (W : World), Below W3.heap.size W3 W → ∃ ad LB cb TB tb, A3 = some ad ∧ W.cell? (ad.add (n * 2)) = some (.slice LB out[n].f0.length cb) ∧ W.cell? ⟨(ad.add (n * 2)).block, (ad.add (n * 2)).off + 1, none⟩ = some (.slice TB out[n].f1.length tb) ∧ out[n].f0.length ≤ cb ∧ Kd.C k63 W LB out[n].f0.length out[n].f0 ∧ out[n].f1.length ≤ tb ∧ Kd.C k54 W TB out[n].f1.length out[n].f1 from fun n hn W hbW => by
                  obtain ⟨ad, LB, cb, TB, tb, h1, h2, h3, h4, h5, h6, h7⟩ := at_T78 HC3.out.2 (n : Int) (by omega) (by omega)
                  have hrd : rd_T78 out (n : Int) = out[n] := by unfold rd_T78; simp [hn]
                  rw [hrd] at h2 h3 h4 h5 h6 h7
                  rw [Int.toNat_natCast] at h2 h3
                  exact ⟨ad, LB, cb, TB, tb, h1, pw_cell_below hbW h2, pw_cell_below hbW h3, h4, Kd.C_below h5 hbW, h6, Kd.C_below h7 hbW⟩)
                go_upto_region 10 with fail
                clear b1
                go_upto_block 4 with fail
                go_cut [7] (fun v7 wx => ∃ n : Nat, v7 = .int .i64 n ∧ n ≤ out.length ∧ Aside0 (∀ y ∈ out.take n, merge_Series.c y.f0 e.f0 < 0) ∧ Aside0 (∀ h : n < out.length, ¬ merge_Series.c out[n].f0 e.f0 < 0) ∧ Aside0 (∃ q, wx = W3.drewN q))
                case first =>
                  go_wp2_with fail
                  go_loopg [7] out.length (fun kx v7 wr => ∃ n : Nat, v7 = .int .i64 n ∧ n ≤ out.length ∧ out.length - n ≤ kx ∧ Aside0 (∀ y ∈ out.take n, merge_Series.c y.f0 e.f0 < 0) ∧ Aside0 (∃ q, wr = W3.drewN q))
                  case atStart => exact ⟨0, rfl, Nat.zero_le _, Nat.le_refl _, ⟨by rw [List.take_zero]; exact fun y hy => nomatch hy⟩, ⟨0, rfl⟩⟩
                  case round =>
                    obtain ⟨n, rfl, hn, hkx2, HLT, HQ⟩ := hrel
                    have hbr : Below W3.heap.size W3 wr := by obtain ⟨q, hq⟩ := HQ.out; rw [hq]; exact pw_below_drewN (Below.refl _ _) q
                    have b0' := pw_cell_below hbr b0
                    by_cases hln : n < out.length
                    · have hlnz : (n : Int) < (out.length : Int) := by omega
                      have hlnb : decide ((n : Int) < (out.length : Int)) = true := decide_eq_true hlnz
                      have hn0 : (0 : Int) ≤ (n : Int) := by omega
                      obtain ⟨ad3, LB, cb, TB, tb, hA3, y0, _, h4, h5, _, _⟩ := HRD.out n hln wr hbr
                      subst hA3
                      have HCC := Aside0.mk (fun m => HCMP.out n hln (wr.drewN m) LB cb (below_step hbr (pw_below_drewN (Below.refl _ _) m)) (Kd.C_below h5 (pw_below_drewN (Below.refl _ _) m)) h4)
                      obtain ⟨v, hv⟩ : ∃ v, v = merge_Series.c out[n].f0 e.f0 := ⟨_, rfl⟩
                      rw [← hv] at HCC
                      have HV := Aside0.mk hv
                      obtain ⟨l9, hl9⟩ : ∃ l9, l9 = out[n].f0.length := ⟨_, rfl⟩
                      rw [← hl9] at HCC y0
                      clear hv h4 h5 hbr hl9
                      by_cases hv0 : v < 0
                      · have hv0b : decide (v < 0) = true := decide_eq_true hv0
                        go_wp2
                        go_quiet ((go_at_call 107; exact Calls.quiet_of (HCC.out _)))
                        go_wp2_with fail
                        go_roundg (out.length - (n + 1))
                        case measure => omega
                        case rel =>
                          obtain ⟨q, hq⟩ := HQ.out
                          refine ⟨n + 1, by go_num, hln, Nat.le_refl _, ⟨?_⟩, ⟨q + nq, by rw [hq, World.drewN_drewN]⟩⟩
                          rw [List.take_succ_eq_append_getElem hln]
                          intro y hy
                          rcases List.mem_append.1 hy with hy | hy
                          · exact HLT.out y hy
                          · obtain rfl := List.mem_singleton.1 hy
                            rw [← HV.out]
                            exact hv0
                      · have hv0b : decide (v < 0) = false := decide_eq_false hv0
                        go_wp2
                        go_quiet ((go_at_call 107; exact Calls.quiet_of (HCC.out _)))
                        go_wp2_with fail
                        go_meet
                        case rel =>
                          obtain ⟨q, hq⟩ := HQ.out
                          exact ⟨n, rfl, hn, HLT, ⟨fun _ => by rw [← HV.out]; exact hv0⟩, ⟨q + nq, by rw [hq, World.drewN_drewN]⟩⟩
                    · have hlnz : ¬ (n : Int) < (out.length : Int) := by omega
                      have hlnb : decide ((n : Int) < (out.length : Int)) = false := decide_eq_false hlnz
                      clear hbr b0'
                      go_wp2
                      go_quiet (fail)
                      go_wp2_with fail
                      go_meet
                      case rel =>
                        obtain ⟨q, hq⟩ := HQ.out
                        exact ⟨n, rfl, hn, HLT, ⟨fun h => absurd h hln⟩, ⟨q + nq, by rw [hq, World.drewN_drewN]⟩⟩
                case rest =>
                  obtain ⟨n, rfl, hn, HLT, HGE, HQ⟩ := hcut
                  have hb4 : Below W3.heap.size W3 wc := by obtain ⟨q, hq⟩ := HQ.out; rw [hq]; exact pw_below_drewN (Below.refl _ _) q
                  have HB4 := Aside0.mk hb4
                  have hn0 : (0 : Int) ≤ (n : Int) := by omega
                  have b0' := pw_cell_below hb4 b0
                  clear b0 HQ hb4
                  obtain ⟨W4, hW4⟩ : ∃ W4, W4 = wc := ⟨_, rfl⟩
                  rw [← hW4] at HB4 b0' ⊢
                  clear hW4
                  go_upto_region 13 with fail
                  go_cut [67] (fun v67 wx => v67 = .bool (decide (∃ h : n < out.length, merge_Series.c out[n].f0 e.f0 = 0)) ∧ Aside0 (∃ q, wx = W4.drewN q))
                  case first =>
                    by_cases hln : n < out.length
                    · have hlnz : (n : Int) < (out.length : Int) := by omega
                      have hlnb : decide ((n : Int) < (out.length : Int)) = true := decide_eq_true hlnz
                      obtain ⟨ad3, LB, cb, TB, tb, hA3, y0, _, h4, h5, _, _⟩ := HRD.out n hln W4 HB4.out
                      subst hA3
                      have HCC := Aside0.mk (fun m => HCMP.out n hln (W4.drewN m) LB cb (below_step HB4.out (pw_below_drewN (Below.refl _ _) m)) (Kd.C_below h5 (pw_below_drewN (Below.refl _ _) m)) h4)
                      obtain ⟨v, hv⟩ : ∃ v, v = merge_Series.c out[n].f0 e.f0 := ⟨_, rfl⟩
                      rw [← hv] at HCC
                      have HV := Aside0.mk hv
                      obtain ⟨l9, hl9⟩ : ∃ l9, l9 = out[n].f0.length := ⟨_, rfl⟩
                      rw [← hl9] at HCC y0
                      clear hv h4 h5 hl9
                      by_cases hv0 : v = 0
                      · have hv0b : (v == 0) = true := beq_iff_eq.mpr hv0
                        have HD := Aside0.mk (show decide (∃ h : n < out.length, merge_Series.c out[n].f0 e.f0 = 0) = true from decide_eq_true ⟨hln, HV.out.symm.trans hv0⟩)
                        go_quiet ((go_at_call 107; exact Calls.quiet_of (HCC.out _)))
                        go_wp2_with fail
                        go_meet
                        case rel => exact ⟨by rw [HD.out], ⟨nq, rfl⟩⟩
                      · have hv0b : (v == 0) = false := beq_eq_false_iff_ne.mpr hv0
                        have HD := Aside0.mk (show decide (∃ h : n < out.length, merge_Series.c out[n].f0 e.f0 = 0) = false from decide_eq_false (fun h => hv0 (HV.out.trans h.2)))
                        go_quiet ((go_at_call 107; exact Calls.quiet_of (HCC.out _)))
                        go_wp2_with fail
                        go_meet
                        case rel => exact ⟨by rw [HD.out], ⟨nq, rfl⟩⟩
                    · have hlnz : ¬ (n : Int) < (out.length : Int) := by omega
                      have hlnb : decide ((n : Int) < (out.length : Int)) = false := decide_eq_false hlnz
                      have HD := Aside0.mk (show decide (∃ h : n < out.length, merge_Series.c out[n].f0 e.f0 = 0) = false from decide_eq_false (fun h => hln h.1))
                      go_quiet (fail)
                      go_wp2_with fail
                      go_meet
                      case rel => exact ⟨by rw [HD.out], ⟨nq, rfl⟩⟩
                  case rest =>
                    obtain ⟨rfl, HQ5⟩ := hcut
                    have hb5 : Below W3.heap.size W3 wc := by obtain ⟨q, hq⟩ := HQ5.out; rw [hq]; exact pw_below_drewN HB4.out q
                    have HB5 := Aside0.mk hb5
                    have HS5 := Aside0.mk (HS3.out.on hb5)
                    have HBK5 := Aside0.mk (blk_below HBK.out hb5)
                    have z1 : wc.cell? ⟨g6, 1, none⟩ = some (.slice SB e.f1.length sd) := (blk_cell HBK5.out 1).trans rfl
                    have HC6 := Aside0.mk (And.intro (Kd.C_below HL1.out.2.1 HS5.out.below) (Kd.C_below HL1.out.2.2.2 HS5.out.below))
                    clear hb5 HQ5 b0' HBK HS3 HCMP
                    by_cases hsame : ∃ h : n < out.length, merge_Series.c out[n].f0 e.f0 = 0
                    · rw [decide_eq_true hsame]
                      obtain ⟨hln, hc0⟩ := hsame
                      obtain ⟨g, cap, e3, hg1, hg2, cells3, hcells3⟩ := Kd.R_form HS5.out.row (by omega)
                      injection e3 with e3a _ e3c
                      subst e3a e3c
                      obtain ⟨ad3, LB, cb, TB, tb, hA3, _, y1, _, _, h6, h7⟩ := HRD.out n hln wc HB5.out
                      injection hA3 with hA3
                      subst hA3
                      rw [add_plain] at y1
                      dsimp only at y1
                      have HOM := Aside0.mk (List.getElem_mem hln)
                      have hsl : out[n].f1.length + e.f1.length < 4398046511104 := by have h1 := HS5.out.tot _ HOM.out; have h2 := HBT.out; rw [rms.tot_append, rms.tot_one] at h2; omega
                      obtain ⟨o, ho⟩ : ∃ o, o = out[n] := ⟨_, rfl⟩
                      have HO := Aside0.mk ho
                      rw [← ho] at y1 h6 h7 hsl
                      have hlnz : (n : Int) < (out.length : Int) := by omega
                      have hbd : Below wc.heap.size wc wc.drew := below_drew (Below.refl _ _)
                      have HMER := Aside0.mk (rms.mergeTwo (W := wc.drew) (Kd.C_below h7 hbd) h6 (Kd.C_below HC6.out.2 hbd) HL1.out.2.2.1 hsl)
                      have HS6 := Aside0.mk (HS5.out.on hbd)
                      have HGL := Aside0.mk (show g < wc.drew.heap.size from hg2)
                      have HC0 := Aside0.mk hc0
                      obtain ⟨l9, hl9⟩ : ∃ l9, l9 = o.f1.length := ⟨_, rfl⟩
                      rw [← hl9] at y1 HMER
                      clear ho h6 h7 hbd hcells3 hg1 hg2 hc0 hl9 hsl
                      go_wp2
                      refine start_ (n := 14) (S := fun w' => w'.cell? ⟨g, n * 2 + 1, none⟩ = some (.slice TB l9 tb) ∧ w'.cell? ⟨g6, 1, none⟩ = some (.slice SB e.f1.length sd)) (ds := [13]) #[false, false, false, false, false, false, false, false, false, false, false, false, false, false] (by kernel_rfl) rfl rfl ⟨y1, z1⟩ (fun hHeld => ?_)
                      generalize wc.drew = W6 at HMER HS6 HGL hHeld ⊢
                      clear y1 z1
                      have HHE := Aside0.mk hHeld
                      refine pure_ (i := 0) (N := (some 68)) (v := ?_) (a' := ?_) #[true, false, false, false, false, false, false, false, false, false, false, false, false, false] rfl rfl (by kernel_rfl) (fun _ _ _ h => h) (Or.inl ⟨by rfl, ?_⟩) ?_ ?_
                      rotate_left
                      · intro w'
                        go_simp
                        with_reducible rfl
                      rotate_left
                      · simp only [Act.put, List.setIfInBounds_toArray, List.set_cons_zero, List.set_cons_succ, i64_w, i32_w]
                        rfl
                      refine pure_ (i := 1) (N := (some 69)) (v := ?_) (a' := ?_) #[true, true, false, false, false, false, false, false, false, false, false, false, false, false] rfl rfl (by kernel_rfl) (fun _ _ _ h => h) (Or.inl ⟨by rfl, ?_⟩) ?_ ?_
                      rotate_left
                      · intro w'
                        go_simp
                        with_reducible rfl
                      rotate_left
                      · simp only [Act.put, List.setIfInBounds_toArray, List.set_cons_zero, List.set_cons_succ, i64_w, i32_w]
                        rfl
                      refine pure_ (i := 2) (N := (some 70)) (v := ?_) (a' := ?_) #[true, true, true, false, false, false, false, false, false, false, false, false, false, false] rfl rfl (by kernel_rfl) (fun _ _ _ h => h) (Or.inl ⟨by rfl, ?_⟩) ?_ ?_
                      rotate_left
                      · intro w'
                        go_simp
                        with_reducible rfl
                      rotate_left
                      · simp only [Act.put, List.setIfInBounds_toArray, List.set_cons_zero, List.set_cons_succ, i64_w, i32_w]
                        rfl
                      refine pure_ (i := 3) (N := (some 71)) (v := ?_) (a' := ?_) #[true, true, true, true, false, false, false, false, false, false, false, false, false, false] rfl rfl (by kernel_rfl) (fun _ _ _ h => h) (Or.inl ⟨by rfl, ?_⟩) ?_ ?_
                      rotate_left
                      · intro w'
                        go_simp
                        with_reducible rfl
                      rotate_left
                      · simp only [Act.put, List.setIfInBounds_toArray, List.set_cons_zero, List.set_cons_succ, i64_w, i32_w]
                        rfl
                      refine pure_ (i := 4) (N := (some 72)) (v := ?_) (a' := ?_) #[true, true, true, true, true, false, false, false, false, false, false, false, false, false] rfl rfl (by kernel_rfl) (fun _ _ _ h => h) (Or.inl ⟨by rfl, ?_⟩) ?_ ?_
                      rotate_left
                      · intro w'
                        go_simp
                        with_reducible rfl
                      rotate_left
                      · simp only [Act.put, List.setIfInBounds_toArray, List.set_cons_zero, List.set_cons_succ, i64_w, i32_w]
                        rfl
                      refine pure_ (i := 5) (N := (some 73)) (v := ?_) (a' := ?_) #[true, true, true, true, true, true, false, false, false, false, false, false, false, false] rfl rfl (by kernel_rfl) (fun _ _ _ h => h) (Or.inl ⟨by rfl, ?_⟩) ?_ ?_
                      rotate_left
                      · intro w'
                        go_simp
                        with_reducible rfl
                      rotate_left
                      · simp only [Act.put, List.setIfInBounds_toArray, List.set_cons_zero, List.set_cons_succ, i64_w, i32_w]
                        rfl
                      refine take_ (i := 6) (N := (some 74)) (v := ?_) (a' := ?_) #[true, true, true, true, true, true, true, false, false, false, false, false, false, false] rfl rfl (by kernel_rfl) (fun _ _ _ h => h) (Or.inl ⟨by rfl, ?_⟩) hHeld ?_ ?_
                      rotate_left
                      · rintro w' ⟨s0, s1⟩
                        go_simp
                        with_reducible rfl
                      rotate_left
                      · simp only [Act.put, List.setIfInBounds_toArray, List.set_cons_zero, List.set_cons_succ, i64_w, i32_w]
                        rfl
                      refine pure_ (i := 7) (N := (some 75)) (v := ?_) (a' := ?_) #[true, true, true, true, true, true, true, true, false, false, false, false, false, false] rfl rfl (by kernel_rfl) (fun _ _ _ h => h) (Or.inl ⟨by rfl, ?_⟩) ?_ ?_
                      rotate_left
                      · intro w'
                        go_simp
                        with_reducible rfl
                      rotate_left
                      · simp only [Act.put, List.setIfInBounds_toArray, List.set_cons_zero, List.set_cons_succ, i64_w, i32_w]
                        rfl
                      refine take_ (i := 8) (N := (some 76)) (v := ?_) (a' := ?_) #[true, true, true, true, true, true, true, true, true, false, false, false, false, false] rfl rfl (by kernel_rfl) (fun _ _ _ h => h) (Or.inl ⟨by rfl, ?_⟩) hHeld ?_ ?_
                      rotate_left
                      · rintro w' ⟨s0, s1⟩
                        go_simp
                        with_reducible rfl
                      rotate_left
                      · simp only [Act.put, List.setIfInBounds_toArray, List.set_cons_zero, List.set_cons_succ, i64_w, i32_w]
                        rfl
                      refine one_ (i := 9) (N := (some 77)) #[true, true, true, true, true, true, true, true, true, true, false, false, false, false] rfl rfl (by kernel_rfl) (by decide) (fun K hK => ?_)
                      refine event_step (w1 := W6.alloc (.cells #[.slice TB l9 tb, .slice SB e.f1.length sd] 60)) (v := .slice (some ⟨W6.heap.size, 0, none⟩) 2 2) (by rfl) ?hr ?_
                      (case hr => first | (go_simp; done) | (go_simp; rfl))
                      have hba : Below W6.heap.size W6 (W6.alloc (.cells #[.slice TB l9 tb, .slice SB e.f1.length sd] 60)) := below_alloc (Below.refl _ _) _
                      refine hK.out _ _ ⟨pw_cell_below hba HHE.out.1, pw_cell_below hba HHE.out.2⟩ (fun hHeld => ?_)
                      clear hK K hba
                      refine norm_ (a' := ?_) ?_ ?_
                      rotate_left
                      · show Act.put _ (some 77) _ = _
                        simp only [Act.put, List.setIfInBounds_toArray, List.set_cons_zero, List.set_cons_succ, i64_w, i32_w]
                        rfl
                      refine one_ (i := 10) (N := (some 78)) #[true, true, true, true, true, true, true, true, true, true, true, false, false, false] rfl rfl (by kernel_rfl) (by decide) (fun K hK => ?_)
                      refine goes_ Try.func40 (by kernel_rfl) rfl #[.slice (some ⟨W6.heap.size, 0, none⟩) 2 2] (by rfl) rfl rfl (by first | (simp; done) | ((try simp only [List.map_toArray, List.map_cons, List.map_nil]); first | done | rfl)) ?_
                      (with_reducible refine (HMER.out).mono ?_)
                      rintro e' W7 ⟨v, rfl, hr7, hb7⟩
                      refine ⟨_, rfl, ?_⟩
                      have HB7 := Aside0.mk hb7
                      have HS7 := Aside0.mk (HS6.out.on hb7)
                      have HV7 := Aside0.mk (Kd.R_lower (Kd.R_mono (ok' := fun k => k ≠ g) (Kd.R_bound hr7) (fun k hk => by have := hk.2.1; have := HGL.out; omega)) (Nat.le_trans HS6.out.below.size (Nat.le_succ _)))
                      obtain ⟨Av, cv, ev⟩ := Kd.R_slice HV7.out
                      subst ev
                      obtain ⟨y, s1, s2, s3, s4⟩ := rms.store HS7.out.row hln HV7.out
                      have HS8 := Aside0.mk (And.intro s3 s4)
                      have HHE7 := Aside0.mk (And.intro (pw_cell_below hb7 HHE.out.1) (pw_cell_below hb7 HHE.out.2))
                      clear hr7 hb7 s3 s4
                      refine hK.out _ _ HHE7.out (fun hHeld => ?_)
                      clear hK K
                      refine norm_ (a' := ?_) ?_ ?_
                      rotate_left
                      · show Act.put _ (some 78) _ = _
                        simp only [Act.put, List.setIfInBounds_toArray, List.set_cons_zero, List.set_cons_succ, i64_w, i32_w]
                        rfl
                      refine pure_ (i := 11) (N := (some 79)) (v := ?_) (a' := ?_) #[true, true, true, true, true, true, true, true, true, true, true, true, false, false] rfl rfl (by kernel_rfl) (fun _ _ _ h => h) (Or.inl ⟨by rfl, ?_⟩) ?_ ?_
                      rotate_left
                      · intro w'
                        go_simp
                        with_reducible rfl
                      rotate_left
                      · simp only [Act.put, List.setIfInBounds_toArray, List.set_cons_zero, List.set_cons_succ, i64_w, i32_w]
                        rfl
                      refine pure_ (i := 12) (N := (some 80)) (v := ?_) (a' := ?_) #[true, true, true, true, true, true, true, true, true, true, true, true, true, false] rfl rfl (by kernel_rfl) (fun _ _ _ h => h) (Or.inl ⟨by rfl, ?_⟩) ?_ ?_
                      rotate_left
                      · intro w'
                        go_simp
                        with_reducible rfl
                      rotate_left
                      · simp only [Act.put, List.setIfInBounds_toArray, List.set_cons_zero, List.set_cons_succ, i64_w, i32_w]
                        rfl
                      refine last_ (i := 13) (N := none) #[true, true, true, true, true, true, true, true, true, true, true, true, true, true] rfl rfl (by kernel_rfl) (by decide) (fun K hK => ?_)
                      refine skip_ (w1 := ?_) (by rfl) rfl ?_ ?_
                      rotate_left
                      · go_simp
                        rfl
                      refine hK.out _ _ ?_
                      clear hK K
                      refine done_ (by kernel_rfl) ?_
                      have ho := HO.out
                      clear HHE HHE7 hHeld s1 s2
                      go_wp2_with fail
                      go_meet
                      case rel =>
                        subst ho
                        exact ⟨_, ⟨HS7.out.same HE.out hln HLT.out HC0.out (HS7.out.below.setCell (Kd.R_base HS7.out.row g rfl) _) HS8.out.1⟩⟩
                    · rw [decide_eq_false hsame]
                      have HGT := Aside0.mk (show ∀ h : n < out.length, 0 < merge_Series.c out[n].f0 e.f0 from fun h => by
                        have h1 := HGE.out h
                        have h2 : merge_Series.c out[n].f0 e.f0 ≠ 0 := fun e => hsame ⟨h, e⟩
                        omega)
                      have hnz : (n : Int) ≤ (out.length : Int) := by omega
                      obtain ⟨i78, hi78, _, hsz78, _⟩ := info_parts merge_Series.info78
                      obtain ⟨A', c', e', hle, hrr⟩ := OwnRow.reads HS5.out.row.2
                      injection e' with e1 _ e2
                      subst e1 e2
                      have HA3 := Aside0.mk (show A3 = none → n = 0 from fun h => by
                        by_cases hp : 0 < out.length
                        · obtain ⟨g, cap, e3, _⟩ := Kd.R_form HS5.out.row hp
                          rw [h] at e3
                          injection e3 with e3
                          cases e3
                        · omega)
                      have hcF := cut_from (P := Try.prog) 76 78 .i64 Try.underlying76 hi78 2 hsz78 A3 out.length c3 (n : Int) hn0 hnz
                      have hcT := cut_to_max (P := Try.prog) 76 78 .i64 .i64 Try.underlying76 hi78 A3 out.length c3 (n : Int) (n : Int) hn0 (Int.le_refl _) hnz hle
                      rw [Int.toNat_natCast] at hcF hcT
                      obtain ⟨A7, HA7⟩ : ∃ A7, Aside0 (A7 = if c3 = n then A3 else A3.map (·.add (n * 2))) := ⟨_, ⟨rfl⟩⟩
                      rw [← HA7.out] at hcF
                      obtain ⟨m7, hm7⟩ : ∃ m7, m7 = out.length - n := ⟨_, rfl⟩
                      obtain ⟨c7, hc7⟩ : ∃ c7, c7 = c3 - n := ⟨_, rfl⟩
                      rw [← hm7, ← hc7] at hcF
                      have hrd := Go.Proofs.Ytjilnpbgclnecac.XF.rr_drop (c := c3) hrr n hn hle
                      have HRT := Aside0.mk (Go.Proofs.Ytjilnpbgclnecac.XF.rr_take hrr n hn)
                      rw [show (if c3 = n then A3 else A3.map (·.add (n * k78.sz))) = A7 from HA7.out.symm, ← hm7] at hrd
                      have HRD2 := Aside0.mk hrd
                      have HBD := Aside0.mk (show (0 + m7) * 48 ≤ 140737488355328 ∧ (out.length + 1) * 48 ≤ 140737488355328 by have := HML.out; omega)
                      clear hsame hi78 hsz78 hrr hrd hm7 hc7
                      go_upto_region 16 with ((with_reducible refine gate_builtin (b := .append) (xs := #[.const (.slice none 0 0), .tmp 83]) rfl ?_); at_builtin; refine Kd.R_append_rows k78 (w0 := w) w.heap.size rfl (.const (.slice none 0 0)) (.tmp 83) 76 78 (.agg #[(.slice none 0 0), (.slice none 0 0)]) 48 rfl Try.underlying76 merge_Series.info78 rfl (by decide) (by omega) (.slice none 0 0) ([] : List S78) (out.drop n) _ _ _ (fun _ => True) _ rfl rfl (Kd.R_nil _ _ _ _ (fun _ => True)) HRD2.out (fun _ _ h => h) (fun k hk => ⟨trivial, by simp [Value.ownBlock]⟩) (fun _ _ => trivial) HS5.out.below HS5.out.below.size HBD.out.1 ?_; intro v8 w8 ho8 hb8 hg8 _; rw [List.nil_append] at ho8; have HO8 := Aside0.mk ho8; have HG8 := Aside0.mk hg8; clear ho8 hb8 hg8)
                      obtain ⟨A8, c8, e8⟩ := Kd.R_slice HO8.out
                      subst e8
                      obtain ⟨m8, hm8⟩ : ∃ m8, m8 = (out.drop n).length := ⟨_, rfl⟩
                      have HM8 := Aside0.mk hm8
                      rw [← hm8] at HO8 ⊢
                      clear hm8
                      have hb8 : Below wc.heap.size wc w8 := ⟨HG8.out.os, HG8.out.tape, HG8.out.output, HG8.out.size, fun i hi => HG8.out.block i hi (by simp [Value.ownBlock])⟩
                      have HB8 := Aside0.mk hb8
                      have HBK8 := Aside0.mk (blk_below HBK5.out hb8)
                      have HC8 := Aside0.mk (And.intro (Kd.C_below HC6.out.1 hb8) (Kd.C_below HC6.out.2 hb8))
                      have HRT8 := Aside0.mk (ReadsRow.imp_ HRT.out hb8 (fun _ _ h => Kd.M_below h hb8))
                      clear hb8 z1 hcF HRD2 HG8 HBK5 HRT HC6
                      have z0 : w8.cell? ⟨g6, 0, none⟩ = some (.slice LA e.f0.length lc) := (blk_cell HBK8.out 0).trans rfl
                      have z1 : w8.cell? ⟨g6, 1, none⟩ = some (.slice SB e.f1.length sd) := (blk_cell HBK8.out 1).trans rfl
                      obtain ⟨s, hs⟩ : ∃ s, s = Go.Proofs.Ytjilnpbgclnecac.XMg.mrg merge_Samples.key e.f1 := ⟨_, rfl⟩
                      have HSS := Aside0.mk hs
                      have HEB := Aside0.mk (show e.f1.length < 1099511627776 by have := HBT.out; rw [rms.tot_append, rms.tot_one] at this; omega)
                      clear hs
                      go_cut [9] (fun v9 wx => ∃ (g9 : Nat) (L9 : Option Addr) (l9 : Nat) (S9 : Option Addr) (s9 : Nat), v9 = .pointer (some ⟨g9, 0, none⟩) ∧ Aside0 (wx.heap[g9]? = some (.cells #[.slice L9 e.f0.length l9, .slice S9 s.length s9] 78 (0, 0))) ∧ Aside0 (Kd.R k63 63 wx w.heap.size (fun _ => True) (.slice L9 e.f0.length l9) e.f0) ∧ Aside0 (Kd.R k54 54 wx w.heap.size (fun _ => True) (.slice S9 s.length s9) s) ∧ Aside0 (Below w8.heap.size w8 wx))
                      case first =>
                        have hbd : Below w8.heap.size w8 w8.drew := below_drew (Below.refl _ _)
                        have CA := Aside0.mk (Kd.C_below HC8.out.1 hbd)
                        have CB := Aside0.mk (Kd.C_below HC8.out.2 hbd)
                        have HBZ := Aside0.mk (show Below w.heap.size w w8 from below_step HS5.out.below HB8.out)
                        have HBW := Aside0.mk hbd
                        clear hbd
                        refine start_ (n := 10) (S := fun w' => w'.cell? ⟨g6, 0, none⟩ = some (.slice LA e.f0.length lc) ∧ w'.cell? ⟨g6, 1, none⟩ = some (.slice SB e.f1.length sd)) (ds := [9]) #[false, false, false, false, false, false, false, false, false, false] (by kernel_rfl) rfl rfl ⟨z0, z1⟩ (fun hHeld => ?_)
                        generalize w8.drew = W9 at CA CB HBW hHeld ⊢
                        clear z0 z1
                        have HHE := Aside0.mk hHeld
                        refine pure_ (i := 0) (N := (some 85)) (v := ?_) (a' := ?_) #[true, false, false, false, false, false, false, false, false, false] rfl rfl (by kernel_rfl) (fun _ _ _ h => h) (Or.inl ⟨by rfl, ?_⟩) ?_ ?_
                        rotate_left
                        · intro w'
                          go_simp
                          with_reducible rfl
                        rotate_left
                        · simp only [Act.put, List.setIfInBounds_toArray, List.set_cons_zero, List.set_cons_succ, i64_w, i32_w]
                          rfl
                        refine take_ (i := 1) (N := (some 86)) (v := ?_) (a' := ?_) #[true, true, false, false, false, false, false, false, false, false] rfl rfl (by kernel_rfl) (fun _ _ _ h => h) (Or.inl ⟨by rfl, ?_⟩) hHeld ?_ ?_
                        rotate_left
                        · rintro w' ⟨s0, s1⟩
                          go_simp
                          with_reducible rfl
                        rotate_left
                        · simp only [Act.put, List.setIfInBounds_toArray, List.set_cons_zero, List.set_cons_succ, i64_w, i32_w]
                          rfl
                        refine pure_ (i := 3) (N := (some 88)) (v := ?_) (a' := ?_) #[true, true, false, true, false, false, false, false, false, false] rfl rfl (by kernel_rfl) (fun _ _ _ h => h) (Or.inl ⟨by rfl, ?_⟩) ?_ ?_
                        rotate_left
                        · intro w'
                          go_simp
                          with_reducible rfl
                        rotate_left
                        · simp only [Act.put, List.setIfInBounds_toArray, List.set_cons_zero, List.set_cons_succ, i64_w, i32_w]
                          rfl
                        refine take_ (i := 4) (N := (some 89)) (v := ?_) (a' := ?_) #[true, true, false, true, true, false, false, false, false, false] rfl rfl (by kernel_rfl) (fun _ _ _ h => h) (Or.inl ⟨by rfl, ?_⟩) hHeld ?_ ?_
                        rotate_left
                        · rintro w' ⟨s0, s1⟩
                          go_simp
                          with_reducible rfl
                        rotate_left
                        · simp only [Act.put, List.setIfInBounds_toArray, List.set_cons_zero, List.set_cons_succ, i64_w, i32_w]
                          rfl
                        refine join_ (σ := Option Addr × Nat × Nat × Option Addr × Nat × Nat) 1 #[true, true, true, true, true, true, true, true, true, false] (fun s_ => [(87, .slice s_.1 e.f0.length s_.2.1), (90, .slice (some ⟨s_.2.2.1, 0, none⟩) 1 1), (91, .slice s_.2.2.2.1 s.length s_.2.2.2.2.1), (9, .pointer (some ⟨s_.2.2.2.2.2, 0, none⟩)), (92, .agg #[.slice s_.1 e.f0.length s_.2.1, .slice s_.2.2.2.1 s.length s_.2.2.2.2.1])]) (fun s_ w' => (w'.cell? ⟨g6, 0, none⟩ = some (.slice LA e.f0.length lc) ∧ w'.cell? ⟨g6, 1, none⟩ = some (.slice SB e.f1.length sd)) ∧ Below W9.heap.size W9 w' ∧ (Kd.R k63 63 w' W9.heap.size (fun _ => True) (.slice s_.1 e.f0.length s_.2.1) e.f0) ∧ (w'.heap[s_.2.2.1]? = some (.cells #[.slice SB e.f1.length sd] 60 (0, 0))) ∧ (Kd.R k54 54 w' W9.heap.size (fun _ => True) (.slice s_.2.2.2.1 s.length s_.2.2.2.2.1) s) ∧ (w'.heap[s_.2.2.2.2.2]? = some (.cells #[.slice none 0 0, .slice none 0 0] 78 (0, 0)) ∧ W9.heap.size ≤ s_.2.2.2.2.2)) ?_ ?_
                        rotate_left
                        · intro h2_5_6_8
                          refine join_ (σ := Option Addr × Nat × Nat × Option Addr × Nat) 2 #[true, true, true, true, true, true, true, true, false, false] (fun s_ => [(87, .slice s_.1 e.f0.length s_.2.1), (90, .slice (some ⟨s_.2.2.1, 0, none⟩) 1 1), (91, .slice s_.2.2.2.1 s.length s_.2.2.2.2), (92, .agg #[.slice s_.1 e.f0.length s_.2.1, .slice s_.2.2.2.1 s.length s_.2.2.2.2])]) (fun s_ w' => (w'.cell? ⟨g6, 0, none⟩ = some (.slice LA e.f0.length lc) ∧ w'.cell? ⟨g6, 1, none⟩ = some (.slice SB e.f1.length sd)) ∧ Below W9.heap.size W9 w' ∧ (Kd.R k63 63 w' W9.heap.size (fun _ => True) (.slice s_.1 e.f0.length s_.2.1) e.f0) ∧ (w'.heap[s_.2.2.1]? = some (.cells #[.slice SB e.f1.length sd] 60 (0, 0))) ∧ (Kd.R k54 54 w' W9.heap.size (fun _ => True) (.slice s_.2.2.2.1 s.length s_.2.2.2.2) s)) ?_ ?_
                          rotate_left
                          · intro h2_5_6
                            refine join_ (σ := Option Addr × Nat × Nat × Nat) 3 #[true, true, true, true, true, true, false, false, true, false] (fun s_ => [(87, .slice s_.1 e.f0.length s_.2.1), (90, .slice (some ⟨s_.2.2.1, 0, none⟩) 1 1), (9, .pointer (some ⟨s_.2.2.2, 0, none⟩))]) (fun s_ w' => (w'.cell? ⟨g6, 0, none⟩ = some (.slice LA e.f0.length lc) ∧ w'.cell? ⟨g6, 1, none⟩ = some (.slice SB e.f1.length sd)) ∧ Below W9.heap.size W9 w' ∧ (Kd.R k63 63 w' W9.heap.size (fun _ => True) (.slice s_.1 e.f0.length s_.2.1) e.f0) ∧ (w'.heap[s_.2.2.1]? = some (.cells #[.slice SB e.f1.length sd] 60 (0, 0))) ∧ (w'.heap[s_.2.2.2]? = some (.cells #[.slice none 0 0, .slice none 0 0] 78 (0, 0)) ∧ W9.heap.size ≤ s_.2.2.2)) ?_ ?_
                            rotate_left
                            · intro h2_5_8
                              refine join_ (σ := Option Addr × Nat × Nat) 4 #[true, true, true, true, true, true, false, false, false, false] (fun s_ => [(87, .slice s_.1 e.f0.length s_.2.1), (90, .slice (some ⟨s_.2.2, 0, none⟩) 1 1)]) (fun s_ w' => (w'.cell? ⟨g6, 0, none⟩ = some (.slice LA e.f0.length lc) ∧ w'.cell? ⟨g6, 1, none⟩ = some (.slice SB e.f1.length sd)) ∧ Below W9.heap.size W9 w' ∧ (Kd.R k63 63 w' W9.heap.size (fun _ => True) (.slice s_.1 e.f0.length s_.2.1) e.f0) ∧ (w'.heap[s_.2.2]? = some (.cells #[.slice SB e.f1.length sd] 60 (0, 0)))) ?_ ?_
                              rotate_left
                              · intro h2_5
                                refine join_ (σ := Option Addr × Nat × Nat) 4 #[true, true, true, true, true, false, false, false, true, false] (fun s_ => [(87, .slice s_.1 e.f0.length s_.2.1), (9, .pointer (some ⟨s_.2.2, 0, none⟩))]) (fun s_ w' => (w'.cell? ⟨g6, 0, none⟩ = some (.slice LA e.f0.length lc) ∧ w'.cell? ⟨g6, 1, none⟩ = some (.slice SB e.f1.length sd)) ∧ Below W9.heap.size W9 w' ∧ (Kd.R k63 63 w' W9.heap.size (fun _ => True) (.slice s_.1 e.f0.length s_.2.1) e.f0) ∧ (w'.heap[s_.2.2]? = some (.cells #[.slice none 0 0, .slice none 0 0] 78 (0, 0)) ∧ W9.heap.size ≤ s_.2.2)) ?_ ?_
                                rotate_left
                                · intro h2_8
                                  refine join_ (σ := Nat × Nat) 4 #[true, true, false, true, true, true, false, false, true, false] (fun s_ => [(90, .slice (some ⟨s_.1, 0, none⟩) 1 1), (9, .pointer (some ⟨s_.2, 0, none⟩))]) (fun s_ w' => (w'.cell? ⟨g6, 0, none⟩ = some (.slice LA e.f0.length lc) ∧ w'.cell? ⟨g6, 1, none⟩ = some (.slice SB e.f1.length sd)) ∧ Below W9.heap.size W9 w' ∧ (w'.heap[s_.1]? = some (.cells #[.slice SB e.f1.length sd] 60 (0, 0))) ∧ (w'.heap[s_.2]? = some (.cells #[.slice none 0 0, .slice none 0 0] 78 (0, 0)) ∧ W9.heap.size ≤ s_.2)) ?_ ?_
                                  rotate_left
                                  · intro h5_8
                                    refine join_ (σ := Option Addr × Nat) 5 #[true, true, true, true, true, false, false, false, false, false] (fun s_ => [(87, .slice s_.1 e.f0.length s_.2)]) (fun s_ w' => (w'.cell? ⟨g6, 0, none⟩ = some (.slice LA e.f0.length lc) ∧ w'.cell? ⟨g6, 1, none⟩ = some (.slice SB e.f1.length sd)) ∧ Below W9.heap.size W9 w' ∧ (Kd.R k63 63 w' W9.heap.size (fun _ => True) (.slice s_.1 e.f0.length s_.2) e.f0)) ?_ ?_
                                    rotate_left
                                    · intro h2
                                      refine join_ (σ := Nat) 5 #[true, true, false, true, true, true, false, false, false, false] (fun s_ => [(90, .slice (some ⟨s_, 0, none⟩) 1 1)]) (fun s_ w' => (w'.cell? ⟨g6, 0, none⟩ = some (.slice LA e.f0.length lc) ∧ w'.cell? ⟨g6, 1, none⟩ = some (.slice SB e.f1.length sd)) ∧ Below W9.heap.size W9 w' ∧ (w'.heap[s_]? = some (.cells #[.slice SB e.f1.length sd] 60 (0, 0)))) ?_ ?_
                                      rotate_left
                                      · intro h5
                                        refine join_ (σ := Nat) 5 #[true, true, false, true, true, false, false, false, true, false] (fun s_ => [(9, .pointer (some ⟨s_, 0, none⟩))]) (fun s_ w' => (w'.cell? ⟨g6, 0, none⟩ = some (.slice LA e.f0.length lc) ∧ w'.cell? ⟨g6, 1, none⟩ = some (.slice SB e.f1.length sd)) ∧ Below W9.heap.size W9 w' ∧ (w'.heap[s_]? = some (.cells #[.slice none 0 0, .slice none 0 0] 78 (0, 0)) ∧ W9.heap.size ≤ s_)) ?_ ?_
                                        rotate_left
                                        · intro h8
                                          have HBd := Below.refl W9.heap.size W9
                                          refine three_ (i := 2) (j := 5) (k := 8) (Ni := (some 87)) (Nj := (some 90)) (Nk := (some 9)) #[true, true, true, true, true, false, false, false, false, false] #[true, true, false, true, true, true, false, false, false, false] #[true, true, false, true, true, false, false, false, true, false] rfl rfl rfl rfl rfl rfl (by kernel_rfl) (by decide) (by decide) (by decide) (fun K hK => ?_) (fun K hK => ?_) (fun K hK => ?_)
                                          · skip
                                            refine Kd.R_append_rows_step k63 (w0 := W9) W9.heap.size (by rfl) (.const (.slice none 0 0)) (.tmp 86) 48 63 (.agg #[(.string ⟨#[]⟩), (.string ⟨#[]⟩)]) 32 rfl Try.underlying48 info63 rfl (by decide) (by omega) (.slice none 0 0) ([] : List S63) e.f0 _ _ _ (fun _ => True) (fun _ => False) rfl rfl (Kd.R_nil _ _ _ _ (fun _ => True)) (Kd.C_below CA.out HBd) (fun x cs h => by rw [k63_open h]; exact k63_mkM _ _ _ _) (fun _ h => h.elim) (fun _ _ => trivial) HBd HBd.size (by have := HEL.out; simp only [List.length_nil]; omega) ?_
                                            intro v87 wn2 f2 hbA hgA _
                                            rw [List.nil_append] at f2
                                            have st_ : Below W9.heap.size W9 wn2 := ⟨hgA.os, hgA.tape, hgA.output, hgA.size, fun i hi => hgA.block i hi (by simp [Value.ownBlock])⟩
                                            clear hbA hgA
                                            obtain ⟨L9, l9, e9⟩ := Kd.R_slice f2
                                            subst e9
                                            have HBn := below_step HBd st_
                                            refine hK.out _ _ ⟨pw_cell_below HBn HHE.out.1, pw_cell_below HBn HHE.out.2⟩ (fun hHeld => ?_)
                                            clear hK K
                                            refine norm_ (a' := ?_) ?_ ?_
                                            rotate_left
                                            · show Act.put _ (some 87) _ = _
                                              simp only [Act.put, List.setIfInBounds_toArray, List.set_cons_zero, List.set_cons_succ, i64_w, i32_w]
                                              rfl
                                            exact norm_ (by simp only [putAll, Act.put, List.setIfInBounds_toArray, List.set_cons_zero, List.set_cons_succ]) (h2 (L9, l9) _ ⟨hHeld, HBn, f2⟩)
                                          · skip
                                            refine event_step (w1 := W9.alloc (.cells #[.slice SB e.f1.length sd] 60)) (v := .slice (some ⟨W9.heap.size, 0, none⟩) 1 1) (by rfl) ?hr ?_
                                            (case hr => first | (go_simp; done) | (go_simp; rfl))
                                            obtain ⟨wn5, hwn⟩ : ∃ W, W = W9.alloc (.cells #[.slice SB e.f1.length sd] 60) := ⟨_, rfl⟩
                                            have st_ : Below W9.heap.size W9 wn5 := by rw [hwn]; exact below_alloc (Below.refl _ _) _
                                            have f5 : wn5.heap[W9.heap.size]? = some (.cells #[.slice SB e.f1.length sd] 60 (0, 0)) := by rw [hwn]; exact blk_new _ _
                                            obtain ⟨g90, hg90⟩ : ∃ g, g = W9.heap.size := ⟨_, rfl⟩
                                            rw [← hg90] at f5 ⊢
                                            rw [← hwn]
                                            clear hwn hg90
                                            have HBn := below_step HBd st_
                                            refine hK.out _ _ ⟨pw_cell_below HBn HHE.out.1, pw_cell_below HBn HHE.out.2⟩ (fun hHeld => ?_)
                                            clear hK K
                                            refine norm_ (a' := ?_) ?_ ?_
                                            rotate_left
                                            · show Act.put _ (some 90) _ = _
                                              simp only [Act.put, List.setIfInBounds_toArray, List.set_cons_zero, List.set_cons_succ, i64_w, i32_w]
                                              rfl
                                            exact norm_ (by simp only [putAll, Act.put, List.setIfInBounds_toArray, List.set_cons_zero, List.set_cons_succ]) (h5 (g90) _ ⟨hHeld, HBn, f5⟩)
                                          · skip
                                            refine box_step ?hg (N := 9) ?hd (cs := #[.slice none 0 0, .slice none 0 0]) (t := 78) ?hr ?_
                                            (case hd => rfl)
                                            (case hg => rfl)
                                            (case hr => first | (go_simp; done) | (go_simp; rfl))
                                            intro g9 hg9 wn8 bk9 st_
                                            have f8 : wn8.heap[g9]? = some (.cells #[.slice none 0 0, .slice none 0 0] 78 (0, 0)) ∧ W9.heap.size ≤ g9 := ⟨bk9, by rw [hg9]; exact HBd.size⟩
                                            clear bk9 hg9
                                            have HBn := below_step HBd st_
                                            refine hK.out _ _ ⟨pw_cell_below HBn HHE.out.1, pw_cell_below HBn HHE.out.2⟩ (fun hHeld => ?_)
                                            clear hK K
                                            refine norm_ (a' := ?_) ?_ ?_
                                            rotate_left
                                            · show Act.put _ (some 9) _ = _
                                              simp only [Act.put, List.setIfInBounds_toArray, List.set_cons_zero, List.set_cons_succ, i64_w, i32_w]
                                              rfl
                                            exact norm_ (by simp only [putAll, Act.put, List.setIfInBounds_toArray, List.set_cons_zero, List.set_cons_succ]) (h8 (g9) _ ⟨hHeld, HBn, f8⟩)
                                        rintro g9 wx ⟨hHeld, HBd, f8⟩
                                        refine norm_ (a' := ?_) ?_ ?_
                                        rotate_left
                                        · simp only [putAll, Act.put, List.setIfInBounds_toArray, List.set_cons_zero, List.set_cons_succ]
                                          rfl
                                        refine two_ (i := 2) (j := 5) (Ni := (some 87)) (Nj := (some 90)) #[true, true, true, true, true, false, false, false, true, false] #[true, true, false, true, true, true, false, false, true, false] rfl rfl rfl rfl (by kernel_rfl) (by decide) (by decide) (fun K hK => ?_) (fun K hK => ?_)
                                        · skip
                                          refine Kd.R_append_rows_step k63 (w0 := W9) W9.heap.size (by rfl) (.const (.slice none 0 0)) (.tmp 86) 48 63 (.agg #[(.string ⟨#[]⟩), (.string ⟨#[]⟩)]) 32 rfl Try.underlying48 info63 rfl (by decide) (by omega) (.slice none 0 0) ([] : List S63) e.f0 _ _ _ (fun _ => True) (fun _ => False) rfl rfl (Kd.R_nil _ _ _ _ (fun _ => True)) (Kd.C_below CA.out HBd) (fun x cs h => by rw [k63_open h]; exact k63_mkM _ _ _ _) (fun _ h => h.elim) (fun _ _ => trivial) HBd HBd.size (by have := HEL.out; simp only [List.length_nil]; omega) ?_
                                          intro v87 wn2 f2 hbA hgA _
                                          rw [List.nil_append] at f2
                                          have st_ : Below wx.heap.size wx wn2 := ⟨hgA.os, hgA.tape, hgA.output, hgA.size, fun i hi => hgA.block i hi (by simp [Value.ownBlock])⟩
                                          clear hbA hgA
                                          obtain ⟨L9, l9, e9⟩ := Kd.R_slice f2
                                          subst e9
                                          have HBn := below_step HBd st_
                                          have n_f8 := (fun h b => And.intro (blk_below h.1 b) h.2) f8 st_
                                          refine hK.out _ _ ⟨pw_cell_below HBn HHE.out.1, pw_cell_below HBn HHE.out.2⟩ (fun hHeld => ?_)
                                          clear hK K
                                          refine norm_ (a' := ?_) ?_ ?_
                                          rotate_left
                                          · show Act.put _ (some 87) _ = _
                                            simp only [Act.put, List.setIfInBounds_toArray, List.set_cons_zero, List.set_cons_succ, i64_w, i32_w]
                                            rfl
                                          exact norm_ (by simp only [putAll, Act.put, List.setIfInBounds_toArray, List.set_cons_zero, List.set_cons_succ]) (h2_8 (L9, l9, g9) _ ⟨hHeld, HBn, f2, n_f8⟩)
                                        · skip
                                          refine event_step (w1 := wx.alloc (.cells #[.slice SB e.f1.length sd] 60)) (v := .slice (some ⟨wx.heap.size, 0, none⟩) 1 1) (by rfl) ?hr ?_
                                          (case hr => first | (go_simp; done) | (go_simp; rfl))
                                          obtain ⟨wn5, hwn⟩ : ∃ W, W = wx.alloc (.cells #[.slice SB e.f1.length sd] 60) := ⟨_, rfl⟩
                                          have st_ : Below wx.heap.size wx wn5 := by rw [hwn]; exact below_alloc (Below.refl _ _) _
                                          have f5 : wn5.heap[wx.heap.size]? = some (.cells #[.slice SB e.f1.length sd] 60 (0, 0)) := by rw [hwn]; exact blk_new _ _
                                          obtain ⟨g90, hg90⟩ : ∃ g, g = wx.heap.size := ⟨_, rfl⟩
                                          rw [← hg90] at f5 ⊢
                                          rw [← hwn]
                                          clear hwn hg90
                                          have HBn := below_step HBd st_
                                          have n_f8 := (fun h b => And.intro (blk_below h.1 b) h.2) f8 st_
                                          refine hK.out _ _ ⟨pw_cell_below HBn HHE.out.1, pw_cell_below HBn HHE.out.2⟩ (fun hHeld => ?_)
                                          clear hK K
                                          refine norm_ (a' := ?_) ?_ ?_
                                          rotate_left
                                          · show Act.put _ (some 90) _ = _
                                            simp only [Act.put, List.setIfInBounds_toArray, List.set_cons_zero, List.set_cons_succ, i64_w, i32_w]
                                            rfl
                                          exact norm_ (by simp only [putAll, Act.put, List.setIfInBounds_toArray, List.set_cons_zero, List.set_cons_succ]) (h5_8 (g90, g9) _ ⟨hHeld, HBn, f5, n_f8⟩)
                                      rintro g90 wx ⟨hHeld, HBd, f5⟩
                                      refine norm_ (a' := ?_) ?_ ?_
                                      rotate_left
                                      · simp only [putAll, Act.put, List.setIfInBounds_toArray, List.set_cons_zero, List.set_cons_succ]
                                        rfl
                                      refine two_ (i := 2) (j := 8) (Ni := (some 87)) (Nj := (some 9)) #[true, true, true, true, true, true, false, false, false, false] #[true, true, false, true, true, true, false, false, true, false] rfl rfl rfl rfl (by kernel_rfl) (by decide) (by decide) (fun K hK => ?_) (fun K hK => ?_)
                                      · skip
                                        refine Kd.R_append_rows_step k63 (w0 := W9) W9.heap.size (by rfl) (.const (.slice none 0 0)) (.tmp 86) 48 63 (.agg #[(.string ⟨#[]⟩), (.string ⟨#[]⟩)]) 32 rfl Try.underlying48 info63 rfl (by decide) (by omega) (.slice none 0 0) ([] : List S63) e.f0 _ _ _ (fun _ => True) (fun _ => False) rfl rfl (Kd.R_nil _ _ _ _ (fun _ => True)) (Kd.C_below CA.out HBd) (fun x cs h => by rw [k63_open h]; exact k63_mkM _ _ _ _) (fun _ h => h.elim) (fun _ _ => trivial) HBd HBd.size (by have := HEL.out; simp only [List.length_nil]; omega) ?_
                                        intro v87 wn2 f2 hbA hgA _
                                        rw [List.nil_append] at f2
                                        have st_ : Below wx.heap.size wx wn2 := ⟨hgA.os, hgA.tape, hgA.output, hgA.size, fun i hi => hgA.block i hi (by simp [Value.ownBlock])⟩
                                        clear hbA hgA
                                        obtain ⟨L9, l9, e9⟩ := Kd.R_slice f2
                                        subst e9
                                        have HBn := below_step HBd st_
                                        have n_f5 := blk_below f5 st_
                                        refine hK.out _ _ ⟨pw_cell_below HBn HHE.out.1, pw_cell_below HBn HHE.out.2⟩ (fun hHeld => ?_)
                                        clear hK K
                                        refine norm_ (a' := ?_) ?_ ?_
                                        rotate_left
                                        · show Act.put _ (some 87) _ = _
                                          simp only [Act.put, List.setIfInBounds_toArray, List.set_cons_zero, List.set_cons_succ, i64_w, i32_w]
                                          rfl
                                        exact norm_ (by simp only [putAll, Act.put, List.setIfInBounds_toArray, List.set_cons_zero, List.set_cons_succ]) (h2_5 (L9, l9, g90) _ ⟨hHeld, HBn, f2, n_f5⟩)
                                      · skip
                                        refine box_step ?hg (N := 9) ?hd (cs := #[.slice none 0 0, .slice none 0 0]) (t := 78) ?hr ?_
                                        (case hd => rfl)
                                        (case hg => rfl)
                                        (case hr => first | (go_simp; done) | (go_simp; rfl))
                                        intro g9 hg9 wn8 bk9 st_
                                        have f8 : wn8.heap[g9]? = some (.cells #[.slice none 0 0, .slice none 0 0] 78 (0, 0)) ∧ W9.heap.size ≤ g9 := ⟨bk9, by rw [hg9]; exact HBd.size⟩
                                        clear bk9 hg9
                                        have HBn := below_step HBd st_
                                        have n_f5 := blk_below f5 st_
                                        refine hK.out _ _ ⟨pw_cell_below HBn HHE.out.1, pw_cell_below HBn HHE.out.2⟩ (fun hHeld => ?_)
                                        clear hK K
                                        refine norm_ (a' := ?_) ?_ ?_
                                        rotate_left
                                        · show Act.put _ (some 9) _ = _
                                          simp only [Act.put, List.setIfInBounds_toArray, List.set_cons_zero, List.set_cons_succ, i64_w, i32_w]
                                          rfl
                                        exact norm_ (by simp only [putAll, Act.put, List.setIfInBounds_toArray, List.set_cons_zero, List.set_cons_succ]) (h5_8 (g90, g9) _ ⟨hHeld, HBn, n_f5, f8⟩)
                                    rintro ⟨L9, l9⟩ wx ⟨hHeld, HBd, f2⟩
                                    refine norm_ (a' := ?_) ?_ ?_
                                    rotate_left
                                    · simp only [putAll, Act.put, List.setIfInBounds_toArray, List.set_cons_zero, List.set_cons_succ]
                                      rfl
                                    refine two_ (i := 5) (j := 8) (Ni := (some 90)) (Nj := (some 9)) #[true, true, true, true, true, true, false, false, false, false] #[true, true, true, true, true, false, false, false, true, false] rfl rfl rfl rfl (by kernel_rfl) (by decide) (by decide) (fun K hK => ?_) (fun K hK => ?_)
                                    · skip
                                      refine event_step (w1 := wx.alloc (.cells #[.slice SB e.f1.length sd] 60)) (v := .slice (some ⟨wx.heap.size, 0, none⟩) 1 1) (by rfl) ?hr ?_
                                      (case hr => first | (go_simp; done) | (go_simp; rfl))
                                      obtain ⟨wn5, hwn⟩ : ∃ W, W = wx.alloc (.cells #[.slice SB e.f1.length sd] 60) := ⟨_, rfl⟩
                                      have st_ : Below wx.heap.size wx wn5 := by rw [hwn]; exact below_alloc (Below.refl _ _) _
                                      have f5 : wn5.heap[wx.heap.size]? = some (.cells #[.slice SB e.f1.length sd] 60 (0, 0)) := by rw [hwn]; exact blk_new _ _
                                      obtain ⟨g90, hg90⟩ : ∃ g, g = wx.heap.size := ⟨_, rfl⟩
                                      rw [← hg90] at f5 ⊢
                                      rw [← hwn]
                                      clear hwn hg90
                                      have HBn := below_step HBd st_
                                      have n_f2 := Kd.R_below f2 st_
                                      refine hK.out _ _ ⟨pw_cell_below HBn HHE.out.1, pw_cell_below HBn HHE.out.2⟩ (fun hHeld => ?_)
                                      clear hK K
                                      refine norm_ (a' := ?_) ?_ ?_
                                      rotate_left
                                      · show Act.put _ (some 90) _ = _
                                        simp only [Act.put, List.setIfInBounds_toArray, List.set_cons_zero, List.set_cons_succ, i64_w, i32_w]
                                        rfl
                                      exact norm_ (by simp only [putAll, Act.put, List.setIfInBounds_toArray, List.set_cons_zero, List.set_cons_succ]) (h2_5 (L9, l9, g90) _ ⟨hHeld, HBn, n_f2, f5⟩)
                                    · skip
                                      refine box_step ?hg (N := 9) ?hd (cs := #[.slice none 0 0, .slice none 0 0]) (t := 78) ?hr ?_
                                      (case hd => rfl)
                                      (case hg => rfl)
                                      (case hr => first | (go_simp; done) | (go_simp; rfl))
                                      intro g9 hg9 wn8 bk9 st_
                                      have f8 : wn8.heap[g9]? = some (.cells #[.slice none 0 0, .slice none 0 0] 78 (0, 0)) ∧ W9.heap.size ≤ g9 := ⟨bk9, by rw [hg9]; exact HBd.size⟩
                                      clear bk9 hg9
                                      have HBn := below_step HBd st_
                                      have n_f2 := Kd.R_below f2 st_
                                      refine hK.out _ _ ⟨pw_cell_below HBn HHE.out.1, pw_cell_below HBn HHE.out.2⟩ (fun hHeld => ?_)
                                      clear hK K
                                      refine norm_ (a' := ?_) ?_ ?_
                                      rotate_left
                                      · show Act.put _ (some 9) _ = _
                                        simp only [Act.put, List.setIfInBounds_toArray, List.set_cons_zero, List.set_cons_succ, i64_w, i32_w]
                                        rfl
                                      exact norm_ (by simp only [putAll, Act.put, List.setIfInBounds_toArray, List.set_cons_zero, List.set_cons_succ]) (h2_8 (L9, l9, g9) _ ⟨hHeld, HBn, n_f2, f8⟩)
                                  rintro ⟨g90, g9⟩ wx ⟨hHeld, HBd, f5, f8⟩
                                  refine norm_ (a' := ?_) ?_ ?_
                                  rotate_left
                                  · simp only [putAll, Act.put, List.setIfInBounds_toArray, List.set_cons_zero, List.set_cons_succ]
                                    rfl
                                  refine one_ (i := 2) (N := (some 87)) #[true, true, true, true, true, true, false, false, true, false] rfl rfl (by kernel_rfl) (by decide) (fun K hK => ?_)
                                  refine Kd.R_append_rows_step k63 (w0 := W9) W9.heap.size (by rfl) (.const (.slice none 0 0)) (.tmp 86) 48 63 (.agg #[(.string ⟨#[]⟩), (.string ⟨#[]⟩)]) 32 rfl Try.underlying48 info63 rfl (by decide) (by omega) (.slice none 0 0) ([] : List S63) e.f0 _ _ _ (fun _ => True) (fun _ => False) rfl rfl (Kd.R_nil _ _ _ _ (fun _ => True)) (Kd.C_below CA.out HBd) (fun x cs h => by rw [k63_open h]; exact k63_mkM _ _ _ _) (fun _ h => h.elim) (fun _ _ => trivial) HBd HBd.size (by have := HEL.out; simp only [List.length_nil]; omega) ?_
                                  intro v87 wn2 f2 hbA hgA _
                                  rw [List.nil_append] at f2
                                  have st_ : Below wx.heap.size wx wn2 := ⟨hgA.os, hgA.tape, hgA.output, hgA.size, fun i hi => hgA.block i hi (by simp [Value.ownBlock])⟩
                                  clear hbA hgA
                                  obtain ⟨L9, l9, e9⟩ := Kd.R_slice f2
                                  subst e9
                                  have HBn := below_step HBd st_
                                  have n_f5 := blk_below f5 st_
                                  have n_f8 := (fun h b => And.intro (blk_below h.1 b) h.2) f8 st_
                                  refine hK.out _ _ ⟨pw_cell_below HBn HHE.out.1, pw_cell_below HBn HHE.out.2⟩ (fun hHeld => ?_)
                                  clear hK K
                                  refine norm_ (a' := ?_) ?_ ?_
                                  rotate_left
                                  · show Act.put _ (some 87) _ = _
                                    simp only [Act.put, List.setIfInBounds_toArray, List.set_cons_zero, List.set_cons_succ, i64_w, i32_w]
                                    rfl
                                  exact norm_ (by simp only [putAll, Act.put, List.setIfInBounds_toArray, List.set_cons_zero, List.set_cons_succ]) (h2_5_8 (L9, l9, g90, g9) _ ⟨hHeld, HBn, f2, n_f5, n_f8⟩)
                                rintro ⟨L9, l9, g9⟩ wx ⟨hHeld, HBd, f2, f8⟩
                                refine norm_ (a' := ?_) ?_ ?_
                                rotate_left
                                · simp only [putAll, Act.put, List.setIfInBounds_toArray, List.set_cons_zero, List.set_cons_succ]
                                  rfl
                                refine one_ (i := 5) (N := (some 90)) #[true, true, true, true, true, true, false, false, true, false] rfl rfl (by kernel_rfl) (by decide) (fun K hK => ?_)
                                refine event_step (w1 := wx.alloc (.cells #[.slice SB e.f1.length sd] 60)) (v := .slice (some ⟨wx.heap.size, 0, none⟩) 1 1) (by rfl) ?hr ?_
                                (case hr => first | (go_simp; done) | (go_simp; rfl))
                                obtain ⟨wn5, hwn⟩ : ∃ W, W = wx.alloc (.cells #[.slice SB e.f1.length sd] 60) := ⟨_, rfl⟩
                                have st_ : Below wx.heap.size wx wn5 := by rw [hwn]; exact below_alloc (Below.refl _ _) _
                                have f5 : wn5.heap[wx.heap.size]? = some (.cells #[.slice SB e.f1.length sd] 60 (0, 0)) := by rw [hwn]; exact blk_new _ _
                                obtain ⟨g90, hg90⟩ : ∃ g, g = wx.heap.size := ⟨_, rfl⟩
                                rw [← hg90] at f5 ⊢
                                rw [← hwn]
                                clear hwn hg90
                                have HBn := below_step HBd st_
                                have n_f2 := Kd.R_below f2 st_
                                have n_f8 := (fun h b => And.intro (blk_below h.1 b) h.2) f8 st_
                                refine hK.out _ _ ⟨pw_cell_below HBn HHE.out.1, pw_cell_below HBn HHE.out.2⟩ (fun hHeld => ?_)
                                clear hK K
                                refine norm_ (a' := ?_) ?_ ?_
                                rotate_left
                                · show Act.put _ (some 90) _ = _
                                  simp only [Act.put, List.setIfInBounds_toArray, List.set_cons_zero, List.set_cons_succ, i64_w, i32_w]
                                  rfl
                                exact norm_ (by simp only [putAll, Act.put, List.setIfInBounds_toArray, List.set_cons_zero, List.set_cons_succ]) (h2_5_8 (L9, l9, g90, g9) _ ⟨hHeld, HBn, n_f2, f5, n_f8⟩)
                              rintro ⟨L9, l9, g90⟩ wx ⟨hHeld, HBd, f2, f5⟩
                              refine norm_ (a' := ?_) ?_ ?_
                              rotate_left
                              · simp only [putAll, Act.put, List.setIfInBounds_toArray, List.set_cons_zero, List.set_cons_succ]
                                rfl
                              refine two_ (i := 6) (j := 8) (Ni := (some 91)) (Nj := (some 9)) #[true, true, true, true, true, true, true, false, false, false] #[true, true, true, true, true, true, false, false, true, false] rfl rfl rfl rfl (by kernel_rfl) (by decide) (by decide) (fun K hK => ?_) (fun K hK => ?_)
                              · skip
                                refine goes_ Try.func40 (by kernel_rfl) rfl #[.slice (some ⟨g90, 0, none⟩) 1 1] (by rfl) rfl rfl (by first | (simp; done) | ((try simp only [List.map_toArray, List.map_cons, List.map_nil]); first | done | rfl)) ?_
                                (with_reducible refine (rms.mergeOne (W1 := W9) f5 (Kd.C_below CB.out HBd) HL1.out.2.2.1 (by have := HEB.out; omega)).mono ?_)
                                rintro e' wn6 ⟨v91, rfl, hr6, st_⟩
                                refine ⟨_, rfl, ?_⟩
                                rw [← HSS.out] at hr6
                                have f6 := Kd.R_lower hr6 HBd.size
                                clear hr6
                                obtain ⟨S9, s9, e9⟩ := Kd.R_slice f6
                                subst e9
                                have HBn := below_step HBd st_
                                have n_f2 := Kd.R_below f2 st_
                                have n_f5 := blk_below f5 st_
                                refine hK.out _ _ ⟨pw_cell_below HBn HHE.out.1, pw_cell_below HBn HHE.out.2⟩ (fun hHeld => ?_)
                                clear hK K
                                refine norm_ (a' := ?_) ?_ ?_
                                rotate_left
                                · show Act.put _ (some 91) _ = _
                                  simp only [Act.put, List.setIfInBounds_toArray, List.set_cons_zero, List.set_cons_succ, i64_w, i32_w]
                                  rfl
                                refine pure_ (i := 7) (N := (some 92)) (v := ?_) (a' := ?_) #[true, true, true, true, true, true, true, true, false, false] rfl rfl (by kernel_rfl) (fun _ _ _ h => h) (Or.inl ⟨by rfl, ?_⟩) ?_ ?_
                                rotate_left
                                · intro w'
                                  go_simp
                                  with_reducible rfl
                                rotate_left
                                · simp only [Act.put, List.setIfInBounds_toArray, List.set_cons_zero, List.set_cons_succ, i64_w, i32_w]
                                  rfl
                                exact norm_ (by simp only [putAll, Act.put, List.setIfInBounds_toArray, List.set_cons_zero, List.set_cons_succ]) (h2_5_6 (L9, l9, g90, S9, s9) _ ⟨hHeld, HBn, n_f2, n_f5, f6⟩)
                              · skip
                                refine box_step ?hg (N := 9) ?hd (cs := #[.slice none 0 0, .slice none 0 0]) (t := 78) ?hr ?_
                                (case hd => rfl)
                                (case hg => rfl)
                                (case hr => first | (go_simp; done) | (go_simp; rfl))
                                intro g9 hg9 wn8 bk9 st_
                                have f8 : wn8.heap[g9]? = some (.cells #[.slice none 0 0, .slice none 0 0] 78 (0, 0)) ∧ W9.heap.size ≤ g9 := ⟨bk9, by rw [hg9]; exact HBd.size⟩
                                clear bk9 hg9
                                have HBn := below_step HBd st_
                                have n_f2 := Kd.R_below f2 st_
                                have n_f5 := blk_below f5 st_
                                refine hK.out _ _ ⟨pw_cell_below HBn HHE.out.1, pw_cell_below HBn HHE.out.2⟩ (fun hHeld => ?_)
                                clear hK K
                                refine norm_ (a' := ?_) ?_ ?_
                                rotate_left
                                · show Act.put _ (some 9) _ = _
                                  simp only [Act.put, List.setIfInBounds_toArray, List.set_cons_zero, List.set_cons_succ, i64_w, i32_w]
                                  rfl
                                exact norm_ (by simp only [putAll, Act.put, List.setIfInBounds_toArray, List.set_cons_zero, List.set_cons_succ]) (h2_5_8 (L9, l9, g90, g9) _ ⟨hHeld, HBn, n_f2, n_f5, f8⟩)
                            rintro ⟨L9, l9, g90, g9⟩ wx ⟨hHeld, HBd, f2, f5, f8⟩
                            refine norm_ (a' := ?_) ?_ ?_
                            rotate_left
                            · simp only [putAll, Act.put, List.setIfInBounds_toArray, List.set_cons_zero, List.set_cons_succ]
                              rfl
                            refine one_ (i := 6) (N := (some 91)) #[true, true, true, true, true, true, true, false, true, false] rfl rfl (by kernel_rfl) (by decide) (fun K hK => ?_)
                            refine goes_ Try.func40 (by kernel_rfl) rfl #[.slice (some ⟨g90, 0, none⟩) 1 1] (by rfl) rfl rfl (by first | (simp; done) | ((try simp only [List.map_toArray, List.map_cons, List.map_nil]); first | done | rfl)) ?_
                            (with_reducible refine (rms.mergeOne (W1 := W9) f5 (Kd.C_below CB.out HBd) HL1.out.2.2.1 (by have := HEB.out; omega)).mono ?_)
                            rintro e' wn6 ⟨v91, rfl, hr6, st_⟩
                            refine ⟨_, rfl, ?_⟩
                            rw [← HSS.out] at hr6
                            have f6 := Kd.R_lower hr6 HBd.size
                            clear hr6
                            obtain ⟨S9, s9, e9⟩ := Kd.R_slice f6
                            subst e9
                            have HBn := below_step HBd st_
                            have n_f2 := Kd.R_below f2 st_
                            have n_f5 := blk_below f5 st_
                            have n_f8 := (fun h b => And.intro (blk_below h.1 b) h.2) f8 st_
                            refine hK.out _ _ ⟨pw_cell_below HBn HHE.out.1, pw_cell_below HBn HHE.out.2⟩ (fun hHeld => ?_)
                            clear hK K
                            refine norm_ (a' := ?_) ?_ ?_
                            rotate_left
                            · show Act.put _ (some 91) _ = _
                              simp only [Act.put, List.setIfInBounds_toArray, List.set_cons_zero, List.set_cons_succ, i64_w, i32_w]
                              rfl
                            refine pure_ (i := 7) (N := (some 92)) (v := ?_) (a' := ?_) #[true, true, true, true, true, true, true, true, true, false] rfl rfl (by kernel_rfl) (fun _ _ _ h => h) (Or.inl ⟨by rfl, ?_⟩) ?_ ?_
                            rotate_left
                            · intro w'
                              go_simp
                              with_reducible rfl
                            rotate_left
                            · simp only [Act.put, List.setIfInBounds_toArray, List.set_cons_zero, List.set_cons_succ, i64_w, i32_w]
                              rfl
                            exact norm_ (by simp only [putAll, Act.put, List.setIfInBounds_toArray, List.set_cons_zero, List.set_cons_succ]) (h2_5_6_8 (L9, l9, g90, S9, s9, g9) _ ⟨hHeld, HBn, n_f2, n_f5, f6, n_f8⟩)
                          rintro ⟨L9, l9, g90, S9, s9⟩ wx ⟨hHeld, HBd, f2, f5, f6⟩
                          refine norm_ (a' := ?_) ?_ ?_
                          rotate_left
                          · simp only [putAll, Act.put, List.setIfInBounds_toArray, List.set_cons_zero, List.set_cons_succ]
                            rfl
                          refine one_ (i := 8) (N := (some 9)) #[true, true, true, true, true, true, true, true, true, false] rfl rfl (by kernel_rfl) (by decide) (fun K hK => ?_)
                          refine box_step ?hg (N := 9) ?hd (cs := #[.slice none 0 0, .slice none 0 0]) (t := 78) ?hr ?_
                          (case hd => rfl)
                          (case hg => rfl)
                          (case hr => first | (go_simp; done) | (go_simp; rfl))
                          intro g9 hg9 wn8 bk9 st_
                          have f8 : wn8.heap[g9]? = some (.cells #[.slice none 0 0, .slice none 0 0] 78 (0, 0)) ∧ W9.heap.size ≤ g9 := ⟨bk9, by rw [hg9]; exact HBd.size⟩
                          clear bk9 hg9
                          have HBn := below_step HBd st_
                          have n_f2 := Kd.R_below f2 st_
                          have n_f5 := blk_below f5 st_
                          have n_f6 := Kd.R_below f6 st_
                          refine hK.out _ _ ⟨pw_cell_below HBn HHE.out.1, pw_cell_below HBn HHE.out.2⟩ (fun hHeld => ?_)
                          clear hK K
                          refine norm_ (a' := ?_) ?_ ?_
                          rotate_left
                          · show Act.put _ (some 9) _ = _
                            simp only [Act.put, List.setIfInBounds_toArray, List.set_cons_zero, List.set_cons_succ, i64_w, i32_w]
                            rfl
                          exact norm_ (by simp only [putAll, Act.put, List.setIfInBounds_toArray, List.set_cons_zero, List.set_cons_succ]) (h2_5_6_8 (L9, l9, g90, S9, s9, g9) _ ⟨hHeld, HBn, n_f2, n_f5, n_f6, f8⟩)
                        rintro ⟨L9, l9, g90, S9, s9, g9⟩ wx ⟨hHeld, HBd, f2, f5, f6, f8⟩
                        refine norm_ (a' := ?_) ?_ ?_
                        rotate_left
                        · simp only [putAll, Act.put, List.setIfInBounds_toArray, List.set_cons_zero, List.set_cons_succ]
                          rfl
                        refine last_ (i := 9) (N := none) #[true, true, true, true, true, true, true, true, true, true] rfl rfl (by kernel_rfl) (by decide) (fun K hK => ?_)
                        have c0 : wx.cell? ⟨g9, 0, none⟩ = some (.slice none 0 0) := (blk_cell f8.1 0).trans rfl
                        have c1 : wx.cell? ⟨g9, 1, none⟩ = some (.slice none 0 0) := (blk_cell f8.1 1).trans rfl
                        have c0f := blk_frozen f8.1 0
                        have c1f := blk_frozen f8.1 1
                        refine skip_ (w1 := ?_) (by rfl) rfl ?_ ?_
                        rotate_left
                        · go_simp
                          rfl
                        refine hK.out _ _ ?_
                        clear hK K
                        refine done_ (by kernel_rfl) ?_
                        clear c0 c1 c0f c1f
                        go_wp2_with fail
                        go_meet
                        case rel =>
                          exact ⟨g9, L9, l9, S9, s9, rfl, ⟨blk_put (blk_put f8.1 0 _ rfl) 1 _ rfl⟩, ⟨Kd.R_lower (Kd.R_set (Kd.R_set f2 f8.1 (by decide) 0 _) (blk_set f8.1 0 _) (by decide) 1 _) (Nat.le_trans HBZ.out.size HBW.out.size)⟩, ⟨Kd.R_lower (Kd.R_set (Kd.R_set f6 f8.1 (by decide) 0 _) (blk_set f8.1 0 _) (by decide) 1 _) (Nat.le_trans HBZ.out.size HBW.out.size)⟩, ⟨below_step HBW.out ((HBd.setCell (p := ⟨g9, 0, none⟩) f8.2 _).setCell (p := ⟨g9, 1, none⟩) f8.2 _)⟩⟩
                      case rest =>
                        obtain ⟨g9, L9, l9, S9, s9, rfl, HBK9, HL9, HS9, HB9⟩ := hcut
                        clear z0 z1
                        have y0 : wc.cell? ⟨g9, 0, none⟩ = some (.slice L9 e.f0.length l9) := (blk_cell HBK9.out 0).trans rfl
                        have y1 : wc.cell? ⟨g9, 1, none⟩ = some (.slice S9 s.length s9) := (blk_cell HBK9.out 1).trans rfl
                        go_wp2
                        have hbd : Below wc.heap.size wc wc.drew := below_drew (Below.refl _ _)
                        have hb1 := below_step (below_step HB8.out HB9.out) hbd
                        have hb2 := below_step HB9.out hbd
                        have HB := Aside0.mk (show Below w.heap.size w wc.drew from below_step HS5.out.below hb1)
                        have HRT9 := Aside0.mk (ReadsRow.imp_ HRT8.out hb2 (fun _ _ h => Kd.M_below h hb2))
                        have HL := Aside0.mk (Kd.R_below HL9.out hbd)
                        have HS := Aside0.mk (Kd.R_below HS9.out hbd)
                        have HO := Aside0.mk (Kd.R_below HO8.out hb2)
                        clear hb1 hb2 hbd HBK9 HL9 HS9 HB9
                        refine start_ (n := 10) (S := fun w' => w'.cell? ⟨g9, 0, none⟩ = some (.slice L9 e.f0.length l9) ∧ w'.cell? ⟨g9, 1, none⟩ = some (.slice S9 s.length s9)) (ds := []) #[false, false, false, false, false, false, false, false, false, false] (by kernel_rfl) rfl rfl ⟨y0, y1⟩ (fun hHeld => ?_)
                        generalize wc.drew = W9 at HB HRT9 HL HS HO hHeld ⊢
                        clear y0 y1
                        have HHE := Aside0.mk hHeld
                        refine pure_ (i := 0) (N := (some 93)) (v := ?_) (a' := ?_) #[true, false, false, false, false, false, false, false, false, false] rfl rfl (by kernel_rfl) (fun _ _ _ h => h) (Or.inl ⟨by rfl, ?_⟩) ?_ ?_
                        rotate_left
                        · intro w'
                          go_simp
                          with_reducible rfl
                        rotate_left
                        · simp only [Act.put, List.setIfInBounds_toArray, List.set_cons_zero, List.set_cons_succ, i64_w, i32_w]
                          rfl
                        refine pure_ (i := 1) (N := (some 94)) (v := ?_) (a' := ?_) #[true, true, false, false, false, false, false, false, false, false] rfl rfl (by kernel_rfl) (fun _ _ _ h => h) (Or.inl ⟨by rfl, ?_⟩) ?_ ?_
                        rotate_left
                        · intro w'
                          go_simp
                          with_reducible rfl
                        rotate_left
                        · simp only [Act.put, List.setIfInBounds_toArray, List.set_cons_zero, List.set_cons_succ, i64_w, i32_w]
                          rfl
                        refine pure_ (i := 2) (N := (some 95)) (v := ?_) (a' := ?_) #[true, true, true, false, false, false, false, false, false, false] rfl rfl (by kernel_rfl) (fun _ _ _ h => h) (Or.inl ⟨by rfl, ?_⟩) ?_ ?_
                        rotate_left
                        · intro w'
                          go_simp
                          with_reducible rfl
                        rotate_left
                        · simp only [Act.put, List.setIfInBounds_toArray, List.set_cons_zero, List.set_cons_succ, i64_w, i32_w]
                          rfl
                        refine pure_ (i := 3) (N := (some 96)) (v := ?_) (a' := ?_) #[true, true, true, true, false, false, false, false, false, false] rfl rfl (by kernel_rfl) (fun _ _ _ h => h) (Or.inl ⟨by rfl, ?_⟩) ?_ ?_
                        rotate_left
                        · intro w'
                          go_simp
                          with_reducible rfl
                        rotate_left
                        · simp only [Act.put, List.setIfInBounds_toArray, List.set_cons_zero, List.set_cons_succ, i64_w, i32_w]
                          rfl
                        refine take_ (i := 4) (N := (some 97)) (v := ?_) (a' := ?_) #[true, true, true, true, true, false, false, false, false, false] rfl rfl (by kernel_rfl) (fun _ _ _ h => h) (Or.inl ⟨by rfl, ?_⟩) hHeld ?_ ?_
                        rotate_left
                        · rintro w' ⟨s0, s1⟩
                          go_simp
                          with_reducible rfl
                        rotate_left
                        · simp only [Act.put, List.setIfInBounds_toArray, List.set_cons_zero, List.set_cons_succ, i64_w, i32_w]
                          rfl
                        refine pure_ (i := 7) (N := (some 100)) (v := ?_) (a' := ?_) #[true, true, true, true, true, false, false, true, false, false] rfl rfl (by kernel_rfl) (fun _ _ _ h => h) (Or.inl ⟨by rfl, ?_⟩) ?_ ?_
                        rotate_left
                        · intro w'
                          go_simp
                          with_reducible rfl
                        rotate_left
                        · simp only [Act.put, List.setIfInBounds_toArray, List.set_cons_zero, List.set_cons_succ, i64_w, i32_w]
                          rfl
                        refine one_ (i := 5) (N := (some 98)) #[true, true, true, true, true, true, false, true, false, false] rfl rfl (by kernel_rfl) (by decide) (fun K hK => ?_)
                        refine event_step (w1 := W9.alloc (.cells #[.slice L9 e.f0.length l9, .slice S9 s.length s9] 78)) (v := .slice (some ⟨W9.heap.size, 0, none⟩) 1 1) (by rfl) ?hr ?_
                        (case hr => first | (go_simp; done) | (go_simp; rfl))
                        obtain ⟨W10, hW10⟩ : ∃ W, W = W9.alloc (.cells #[.slice L9 e.f0.length l9, .slice S9 s.length s9] 78) := ⟨_, rfl⟩
                        have hba : Below W9.heap.size W9 W10 := by rw [hW10]; exact below_alloc (Below.refl _ _) _
                        have HBL2 := Aside0.mk (show W10.heap[W9.heap.size]? = some (.cells #[.slice L9 e.f0.length l9, .slice S9 s.length s9] 78 (0, 0)) by rw [hW10]; exact blk_new _ _)
                        have HBA := Aside0.mk hba
                        rw [← hW10]
                        clear hW10 hba
                        obtain ⟨g98, hg98⟩ : ∃ g, g = W9.heap.size := ⟨_, rfl⟩
                        rw [← hg98] at HBL2 ⊢
                        clear hg98
                        refine hK.out _ _ ⟨pw_cell_below HBA.out HHE.out.1, pw_cell_below HBA.out HHE.out.2⟩ (fun hHeld => ?_)
                        clear hK K
                        refine norm_ (a' := ?_) ?_ ?_
                        rotate_left
                        · show Act.put _ (some 98) _ = _
                          simp only [Act.put, List.setIfInBounds_toArray, List.set_cons_zero, List.set_cons_succ, i64_w, i32_w]
                          rfl
                        have HHE10 := Aside0.mk hHeld
                        have HB10 := Aside0.mk (below_step HB.out HBA.out)
                        have HNEW := Aside0.mk (show k78.M W10 w.heap.size (fun k => k < W10.heap.size) ⟨e.f0, s⟩ [.slice L9 e.f0.length l9, .slice S9 s.length s9] from k78_mkM _ _ _ ⟨e.f0, s⟩ (Kd.R_mono (Kd.R_bound (Kd.R_below HL.out HBA.out)) (fun k hk => hk.2.2.1)) (Kd.R_mono (Kd.R_bound (Kd.R_below HS.out HBA.out)) (fun k hk => hk.2.2.1)))
                        have HLIT := Aside0.mk (show ReadsRow (k78.M W10 w.heap.size (fun k => k < W10.heap.size)) k78.sz W10 (some ⟨g98, 0, none⟩) 1 [(⟨e.f0, s⟩ : S78)] from by
                          refine ⟨rfl, by omega, fun _ => ⟨_, rfl, fun j p hj => ?_⟩⟩
                          rcases j with _ | j
                          · injection hj with hj
                            subst hj
                            refine ⟨[.slice L9 e.f0.length l9, .slice S9 s.length s9], rfl, HNEW.out, fun i u hu => ?_⟩
                            rw [add_plain, blk_cell HBL2.out]
                            rw [Nat.zero_mul, Nat.zero_add]
                            simpa using hu
                          · cases hj)
                        have HOLD := Aside0.mk (ReadsRow.imp_ (R' := k78.M W10 w.heap.size (fun k => k < W10.heap.size)) HRT9.out HBA.out (fun p c h => k78.M_mono (fun k hk => hk.2.2.1) (k78.M_bound (Kd.M_below h HBA.out))))
                        obtain ⟨A8', c8', e8', hl8, hr8⟩ := OwnRow.reads HO.out.2
                        injection e8' with e81 _ e82
                        subst e81 e82
                        have HR8 := Aside0.mk hr8
                        have HCP := Aside0.mk (show (n + 1) * 48 ≤ 140737488355328 ∧ ((out.take n ++ [(⟨e.f0, s⟩ : S78)]).length + m8) * 48 ≤ 140737488355328 by
                          have h1 := HBD.out.2
                          have h2 := HM8.out
                          rw [List.length_drop] at h2
                          rw [List.length_append, List.length_take, List.length_singleton]
                          omega)
                        clear hr8 hl8
                        refine one_ (i := 6) (N := (some 99)) #[true, true, true, true, true, true, true, true, false, false] rfl rfl (by kernel_rfl) (by decide) (fun K hK => ?_)
                        refine Go.Proofs.Ytjilnpbgclnecac.XF.R_append_full_step k78 w.heap.size (by rfl) (.tmp 96) (.tmp 98) 76 78 (.agg #[(.slice none 0 0), (.slice none 0 0)]) 48 rfl Try.underlying76 merge_Series.info78 rfl (by decide) (by omega) A3 (some ⟨g98, 0, none⟩) n n 1 1 (out.take n) [⟨e.f0, s⟩] (fun _ => True) (fun k => k < W10.heap.size) rfl rfl HOLD.out HLIT.out (fun h => HA3.out h) (by omega) (by omega) (fun _ _ h => h) (fun _ _ => trivial) trivial HB10.out.size HCP.out.1 ?_
                        intro v99 W11 ho11 hb11 hk11
                        have HO11 := Aside0.mk ho11
                        have HB11 := Aside0.mk hb11
                        have HK11 := Aside0.mk hk11
                        clear ho11 hb11 hk11
                        refine hK.out _ _ ⟨pw_cell_below HB11.out HHE10.out.1, pw_cell_below HB11.out HHE10.out.2⟩ (fun hHeld => ?_)
                        clear hK K
                        refine norm_ (a' := ?_) ?_ ?_
                        rotate_left
                        · show Act.put _ (some 99) _ = _
                          simp only [Act.put, List.setIfInBounds_toArray, List.set_cons_zero, List.set_cons_succ, i64_w, i32_w]
                          rfl
                        have HHE11 := Aside0.mk hHeld
                        have HB12 := Aside0.mk (below_step HBA.out HB11.out)
                        have HR11 := Aside0.mk (show ReadsRow (k78.M W11 w.heap.size (fun k => k < W10.heap.size)) k78.sz W11 A8 m8 (out.drop n) from by
                          have h0 := ReadsRow.imp_ (R' := k78.M W11 w.heap.size (fun k => k < W10.heap.size)) HR8.out HB12.out (fun p c h => k78.M_mono (fun k hk => Nat.lt_of_lt_of_le hk.2.2.1 HBA.out.size) (Kd.M_below (k78.M_bound h) HB12.out))
                          rw [← HM8.out] at h0
                          exact h0)
                        have HOKP := Aside0.mk (show ∀ k, k < W10.heap.size → (fun _ : Nat => True) k ∧ some k ≠ v99.ownBlock from fun k hk => ⟨trivial, by rw [HK11.out]; intro h; injection h with h; omega⟩)
                        have HB14 := Aside0.mk (below_step HB10.out HB11.out)
                        refine one_ (i := 8) (N := (some 101)) #[true, true, true, true, true, true, true, true, true, false] rfl rfl (by kernel_rfl) (by decide) (fun K hK => ?_)
                        refine Kd.R_append_rows_step k78 (Rr := k78.M W11 w.heap.size (fun k => k < W10.heap.size)) (w0 := w) w.heap.size (by rfl) (.tmp 99) (.tmp 100) 76 78 (.agg #[(.slice none 0 0), (.slice none 0 0)]) 48 rfl Try.underlying76 merge_Series.info78 rfl (by decide) (by omega) v99 (out.take n ++ [(⟨e.f0, s⟩ : S78)]) (out.drop n) A8 m8 c8 (fun _ => True) (fun k => k < W10.heap.size) rfl rfl ?A1 ?A2 ?A3 ?A4 ?A5 ?A6 ?A7 ?A8 ?_
                        case A1 => exact HO11.out
                        case A2 => exact HR11.out
                        case A3 => exact fun _ _ h => h
                        case A4 => exact HOKP.out
                        case A5 => exact fun _ _ => trivial
                        case A6 => exact HB14.out
                        case A7 => exact HB14.out.size
                        case A8 => exact HCP.out.2
                        intro v101 W13 ho13 hb13 hg13 _
                        have HO13 := Aside0.mk ho13
                        have HB13 := Aside0.mk hb13
                        have HG13 := Aside0.mk hg13
                        clear ho13 hb13 hg13
                        have hg9 : g9 < W10.heap.size := World.block_lt_of_cell? W10 _ HHE10.out.1
                        have hbk := HG13.out.block g9 (World.block_lt_of_cell? W11 _ HHE11.out.1) (by rw [HK11.out]; intro h; injection h with h; omega)
                        have HHE13 := Aside0.mk (And.intro ((World.cell?_of_block (w := W11) (a := ⟨g9, 0, none⟩) hbk).trans HHE11.out.1) ((World.cell?_of_block (w := W11) (a := ⟨g9, 1, none⟩) hbk).trans HHE11.out.2))
                        clear hbk hg9
                        refine hK.out _ _ HHE13.out (fun hHeld => ?_)
                        clear hK K
                        refine norm_ (a' := ?_) ?_ ?_
                        rotate_left
                        · show Act.put _ (some 101) _ = _
                          simp only [Act.put, List.setIfInBounds_toArray, List.set_cons_zero, List.set_cons_succ, i64_w, i32_w]
                          rfl
                        refine pure_ (i := 9) (N := (some 3)) (v := ?_) (a' := ?_) #[true, true, true, true, true, true, true, true, true, true] rfl rfl (by kernel_rfl) (fun _ _ _ h => h) (Or.inl ⟨by rfl, ?_⟩) ?_ ?_
                        rotate_left
                        · intro w'
                          go_simp
                          with_reducible rfl
                        rotate_left
                        · simp only [Act.put, List.setIfInBounds_toArray, List.set_cons_zero, List.set_cons_succ, i64_w, i32_w]
                          rfl
                        refine done_ (by kernel_rfl) ?_
                        go_wp2_with fail
                        go_meet
                        case rel => exact ⟨_, ⟨HS5.out.new HE.out hn HLT.out HGT.out HEL.out HB13.out (by rw [← HSS.out]; exact HO13.out)⟩⟩
            case rest =>
              obtain ⟨out', HS'⟩ := hcut
              go_wp2_with fail
              go_roundg (x.length - (k + 1))
              case measure => omega
              case rel => exact ⟨k + 1, out', by go_num, hlk, Nat.le_refl _, ⟨by rw [HTK.out]; exact HS'.out⟩⟩
          · have hlkz : ¬ (k : Int) < (x.length : Int) := by omega
            go_wp2_with fail
            go_meet
            case rel =>
              refine ⟨out, ⟨?_⟩⟩
              have := HS.out
              rwa [List.take_of_length_le (show x.length ≤ k by omega)] at this
      case rest =>
        obtain ⟨out', HS'⟩ := hcut
        go_wp2_with fail
        go_roundg (l0.length - (i + 1))
        case measure => omega
        case rel => exact ⟨i + 1, out', by go_num, hlt, Nat.le_refl _, ⟨by rw [rms.flat_take hlt, ← HXE.out]; exact HS'.out⟩⟩
    · have hltz : ¬ (i : Int) < (l0.length : Int) := by omega
      go_wp2_with fail
      go_ret
      refine ⟨_, rfl, ?_, HS.out.below⟩
      have hv := HS.out.val
      rw [List.take_of_length_le (by omega)] at hv
      have e : out = r := by
        rw [← HR.out]
        unfold merge_Series.ser
        rw [← hv, List.map_map]
        exact (List.map_id'' (fun x => rfl) out).symm
      rw [← e]
      exact HS.out.row
end


end Go.Proofs.Ytjilnpbgclnecac.PMergeSeries
