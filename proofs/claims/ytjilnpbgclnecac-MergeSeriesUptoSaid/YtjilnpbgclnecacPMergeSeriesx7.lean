/- Written by a program of this session out of the translation: for Go functions Lean functions of the same answers, and the proof that the calls come to these answers. -/
import Derived.StillTailTactics
import Derived.Test.YtjilnpbgclnecacXLay
import Derived.Test.YtjilnpbgclnecacXStableS
import Derived.Test.YtjilnpbgclnecacXPure
import Derived.Test.YtjilnpbgclnecacXHand
import Derived.Test.YtjilnpbgclnecacXSortRow
import Derived.Test.YtjilnpbgclnecacXStr
import Derived.Test.YtjilnpbgclnecacXBd
import Derived.Test.YtjilnpbgclnecacXLab
import Derived.Test.YtjilnpbgclnecacXSer
import Derived.Test.YtjilnpbgclnecacPMergeSeriesx0
import Derived.Test.YtjilnpbgclnecacPMergeSeriesx4
import Derived.Test.YtjilnpbgclnecacPMergeSeriesx5
import Derived.Test.YtjilnpbgclnecacPMergeSeriesx6
namespace Go.Proofs.Ytjilnpbgclnecac.PMergeSeries
open Go.RowKit Go.Proofs.YtjilnpbgclnecacW.PrintWords Go.Proofs.YtjilnpbgclnecacW.PrintLast Go.Proofs.YtjilnpbgclnecacW.PrintMore Go.Proofs.Ytjilnpbgclnecac.XB
attribute [local go_sem] sg_u8 sg_u16 sg_u32 sg_u64 mx_u8 mx_u16 mx_u32 mx_u64
attribute [local go_sem] max2_int min2_int max_two min_two max_three min_three max_four min_four   -- for this text's walks alone
set_option linter.unusedVariables false
set_option linter.unusedSimpArgs false

/-! ### merge_Series: function 45 -/
/-! ### the order -/
def merge_Series.labs (l : List S63) : List (List UInt8 × List UInt8) := l.map fun x => (x.f0.toList, x.f1.toList)
def merge_Series.c (a b : List S63) : Int := Go.Proofs.Ytjilnpbgclnecac.XLab.lc (merge_Series.labs a) (merge_Series.labs b)
theorem merge_Series.toList_inj {a b : ByteArray} (h : a.toList = b.toList) : a = b := by
  have h2 : a.data.toList = b.data.toList := by rw [← Go.ByteArray.toList_eq, ← Go.ByteArray.toList_eq]; exact h
  cases a; cases b
  simpa using h2
theorem merge_Series.labs_inj : ∀ {a b : List S63}, merge_Series.labs a = merge_Series.labs b → a = b
  | [], [], _ => rfl
  | [], _ :: _, h => by cases h
  | _ :: _, [], h => by cases h
  | ⟨a0, a1⟩ :: a, ⟨b0, b1⟩ :: b, h => by
    injection h with h1 h2
    injection h1 with h3 h4
    have e3 : a0 = b0 := merge_Series.toList_inj h3
    have e4 : a1 = b1 := merge_Series.toList_inj h4
    rw [e3, e4, merge_Series.labs_inj h2]
theorem merge_Series.c_ord : Go.Proofs.Ytjilnpbgclnecac.XSer.Ord merge_Series.c := ⟨fun x y => ⟨fun h => merge_Series.labs_inj ((Go.Proofs.Ytjilnpbgclnecac.XLab.lc_zero _ _).1 h), fun h => (Go.Proofs.Ytjilnpbgclnecac.XLab.lc_zero _ _).2 (by rw [h])⟩, fun x y => Go.Proofs.Ytjilnpbgclnecac.XLab.lc_anti _ _, fun x y z => Go.Proofs.Ytjilnpbgclnecac.XLab.lc_tr _ _ _⟩
def merge_Series.pr (x : S78) : List S63 × List S54 := (x.f0, x.f1)
def merge_Series.mk (p : List S63 × List S54) : S78 := ⟨p.1, p.2⟩
def merge_Series.ser (all : List S78) : List S78 := (Go.Proofs.Ytjilnpbgclnecac.XSer.refser merge_Series.c merge_Samples.key (all.map merge_Series.pr)).map merge_Series.mk
/-! ### what it comes to -/
def merge_Series.fits (l : List (List S78)) : Prop := l.length < 1099511627776 ∧ l.flatten.length < 1099511627776 ∧ (l.flatten.map fun x => x.f1.length).sum < 1099511627776 ∧ ∀ x ∈ l.flatten, x.f0.length < 1099511627776
instance merge_Series.fitsD (l : List (List S78)) : Decidable (merge_Series.fits l) := by unfold merge_Series.fits; exact inferInstance
def merge_Series.f (l0 : List (List S78)) : Option (List S78) := if merge_Series.fits l0 then some (merge_Series.ser l0.flatten) else none
-- WALK
-- leans on labels_Cmp.calls
-- reaches 87
section
attribute [local go_sem high] Go.Proofs.Ytjilnpbgclnecac.XStr.str_gtr Go.Proofs.Ytjilnpbgclnecac.XStr.str_leq
set_option maxHeartbeats 8000000 in
set_option maxRecDepth 100000 in
theorem labels_Cmp.growsB (k : Nat) (A0 : Option Addr) (c0 : Nat) (l0 : List (S63)) (A1 : Option Addr) (c1 : Nat) (l1 : List (S63)) (r : Int) (w : World) (hr0 : Kd.C k63 w A0 l0.length l0) (hc0 : l0.length ≤ c0) (hr1 : Kd.C k63 w A1 l1.length l1) (hc1 : l1.length ≤ c1) (h : labels_Cmp.f k l0 l1 = some r) :
  Calls Try.prog 106 #[.slice A0 l0.length c0, .slice A1 l1.length c1] w fun e w' => e = .returned (.int .i64 r) ∧ Go.Proofs.Ytjilnpbgclnecac.XBd.BD w w' := by
 have HR0 := Aside0.mk hr0
 have HC0 := Aside0.mk hc0
 clear hr0 hc0
 have HR1 := Aside0.mk hr1
 have HC1 := Aside0.mk hc1
 clear hr1 hc1
 have HB := Aside0.mk (Go.Proofs.Ytjilnpbgclnecac.XBd.BD.refl w)
 have H : (labels_Cmp.l0 k l0 l1 (mn (l0.length : Int) (l1.length : Int)) 0) = some r := h
 clear h
 obtain ⟨ji3, hji3⟩ : ∃ j_ : Int, (mn (l0.length : Int) (l1.length : Int)) = j_ := ⟨_, rfl⟩
 replace H : (labels_Cmp.l0 k l0 l1 ji3 0) = some r := by first | (rw [hji3] at H; exact H) | (simp only [hji3] at H ⊢; exact H)
 (try (have hji3l : 0 ≤ ji3 := by (rw [← hji3]; unfold mn; (repeat' split) <;> omega)))
 (try (have hji3m : 0 ≤ ji3 := by omega))
 have hji3_ : (if (l1.length : Int) < (l0.length : Int) then (l1.length : Int) else (l0.length : Int)) = ji3 := hji3
 have hji3n_ : (if l1.length < l0.length then (l1.length : Int) else (l0.length : Int)) = ji3 := by rw [← hji3_]; split <;> split <;> first | rfl | omega
 have H' := Aside0.mk H
 clear H
 go_enter Try.func106, Try.ntmps106
 go_wp2
 go_loopg [12] k (fun kq v12 w' => ∃ (x12_1 : Int), v12 = .int .i64 x12_1 ∧ Aside0 (labels_Cmp.l0 kq l0 l1 ji3 x12_1 = some r) ∧ Aside0 (kq ≤ k) ∧ Aside0 (Go.Proofs.Ytjilnpbgclnecac.XBd.BD w w'))
 case atStart => exact ⟨(0), (by first | rfl | (simp; done) | (simp [*]; done)), H', ⟨Nat.le_refl _⟩, ⟨by repeat (first | (with_reducible first | exact HB.out | apply Go.Proofs.Ytjilnpbgclnecac.XBd.bd_alloc | apply Go.Proofs.Ytjilnpbgclnecac.XBd.bd_drewN | apply Go.Proofs.Ytjilnpbgclnecac.XBd.bd_drew1) | exact HB.out)⟩⟩
 case round =>
  clear H'
  (try clear c1); (try clear p2)
  obtain ⟨x12_1, rfl, HA, HK1, HB⟩ := hrel
  cases gk with
  | zero => exact absurd HA.out (by simp [labels_Cmp.l0])
  | succ k1 =>
   have H := HA.out
   clear HA
   simp only [labels_Cmp.l0] at H
   by_cases c4 : x12_1 < ji3
   ·rw [if_pos c4] at H
    have c4b0 : decide (x12_1 < ji3) = true := decide_eq_true c4
    clear c4
    by_cases c5 : 0 ≤ x12_1
    ·rw [if_pos c5] at H
     have c5b0 : decide (0 ≤ x12_1) = true := decide_eq_true c5
     clear c5
     by_cases c6 : x12_1 < (l0.length : Int)
     ·rw [if_pos c6] at H
      have c6b0 : decide (x12_1 < (l0.length : Int)) = true := decide_eq_true c6
      clear c6
      by_cases c7 : x12_1 < (l1.length : Int)
      ·rw [if_pos c7] at H
       have c7b0 : decide (x12_1 < (l1.length : Int)) = true := decide_eq_true c7
       clear c7
       replace H := Option.bind_eq_some_iff.mp H
       obtain ⟨t129, A80, H⟩ := H
       replace H : ((cmp_Compare_string.f ((rd_T63 l0 x12_1).f1) ((rd_T63 l1 x12_1).f1)).bind fun t132 => ((cmp_Or_int.f k1 (([t129, t132] : List Int))).bind fun t136 => (if t136 = 0 then (labels_Cmp.l0 k1 l0 l1 ji3 (wrap64 (x12_1 + 1))) else (some t136)))) = some r := H
       have A8 := Aside0.mk A80
       clear A80
       replace H := Option.bind_eq_some_iff.mp H
       obtain ⟨t132, A90, H⟩ := H
       replace H : ((cmp_Or_int.f k1 (([t129, t132] : List Int))).bind fun t136 => (if t136 = 0 then (labels_Cmp.l0 k1 l0 l1 ji3 (wrap64 (x12_1 + 1))) else (some t136))) = some r := H
       have A9 := Aside0.mk A90
       clear A90
       obtain ⟨y133, hy133⟩ : ∃ y_ : List Int, y_ = (([t129, t132] : List Int)) := ⟨_, rfl⟩
       replace H : ((cmp_Or_int.f k1 y133).bind fun t136 => (if t136 = 0 then (labels_Cmp.l0 k1 l0 l1 ji3 (wrap64 (x12_1 + 1))) else (some t136))) = some r := by first | (rw [hy133]; with_reducible exact H) | (have H2_ := (Option.bind_some _ _).symm.trans H; rw [hy133]; with_reducible exact H2_) | (have H2_ := (Option.bind_some _ _).symm.trans H; with_reducible exact H2_) | with_reducible exact H | (rw [hy133]; exact H) | exact H
       have Ny133 := Aside0.mk hy133
       clear hy133
       replace H := Option.bind_eq_some_iff.mp H
       obtain ⟨t136, A100, H⟩ := H
       replace H : (if t136 = 0 then (labels_Cmp.l0 k1 l0 l1 ji3 (wrap64 (x12_1 + 1))) else (some t136)) = some r := H
       have A10 := Aside0.mk A100
       clear A100
       by_cases c11 : t136 = 0
       ·rw [if_pos c11] at H
        have c11b0 : (t136 == 0) = true := beq_iff_eq.mpr c11
        have c11b1 : (t136 != 0) = false := bne_eq_false_iff_eq.mpr c11
        clear c11
        have H' := Aside0.mk H
        clear H
        try go_wp2
        have n0_ := Aside0.mk (Go.Proofs.Ytjilnpbgclnecac.XBd.bd_drew1 HB.out)
        clear HB
        have HB := n0_
        clear n0_
        have p127 : 0 ≤ (x12_1 : Int) := of_decide_eq_true (by first | (with_reducible assumption) | assumption)
        have q127 : x12_1 < (l0.length : Int) := of_decide_eq_true (by first | (with_reducible assumption) | assumption)
        obtain ⟨ad127, e127, hx127_0, hx127_1⟩ := at_T63 HR0.out x12_1 p127 q127
        have hw127_1 := hx127_1
        have hw127_0 := hx127_0
        cases e127
        replace hx127_0 := (HB.out.cell (World.block_lt_of_cell? w _ hx127_0)).trans hx127_0
        replace hx127_1 := (HB.out.cell (World.block_lt_of_cell? w _ hx127_1)).trans hx127_1
        replace p127 := eq_true p127
        replace q127 := eq_true q127
        have p128 : 0 ≤ (x12_1 : Int) := of_decide_eq_true (by first | (with_reducible assumption) | assumption)
        have q128 : x12_1 < (l1.length : Int) := of_decide_eq_true (by first | (with_reducible assumption) | assumption)
        obtain ⟨ad128, e128, hx128_0, hx128_1⟩ := at_T63 HR1.out x12_1 p128 q128
        have hw128_1 := hx128_1
        have hw128_0 := hx128_0
        cases e128
        replace hx128_0 := (HB.out.cell (World.block_lt_of_cell? w _ hx128_0)).trans hx128_0
        replace hx128_1 := (HB.out.cell (World.block_lt_of_cell? w _ hx128_1)).trans hx128_1
        replace p128 := eq_true p128
        replace q128 := eq_true q128
        have p130 : 0 ≤ (x12_1 : Int) := of_decide_eq_true (by first | (with_reducible assumption) | assumption)
        have q130 : x12_1 < (l0.length : Int) := of_decide_eq_true (by first | (with_reducible assumption) | assumption)
        obtain ⟨ad130, e130, hx130_0, hx130_1⟩ := at_T63 HR0.out x12_1 p130 q130
        have hw130_1 := hx130_1
        have hw130_0 := hx130_0
        obtain rfl : ad127 = ad130 := (by injection e130)
        replace hx130_0 := (HB.out.cell (World.block_lt_of_cell? w _ hx130_0)).trans hx130_0
        replace hx130_1 := (HB.out.cell (World.block_lt_of_cell? w _ hx130_1)).trans hx130_1
        replace p130 := eq_true p130
        replace q130 := eq_true q130
        have p131 : 0 ≤ (x12_1 : Int) := of_decide_eq_true (by first | (with_reducible assumption) | assumption)
        have q131 : x12_1 < (l1.length : Int) := of_decide_eq_true (by first | (with_reducible assumption) | assumption)
        obtain ⟨ad131, e131, hx131_0, hx131_1⟩ := at_T63 HR1.out x12_1 p131 q131
        have hw131_1 := hx131_1
        have hw131_0 := hx131_0
        obtain rfl : ad128 = ad131 := (by injection e131)
        replace hx131_0 := (HB.out.cell (World.block_lt_of_cell? w _ hx131_0)).trans hx131_0
        replace hx131_1 := (HB.out.cell (World.block_lt_of_cell? w _ hx131_1)).trans hx131_1
        replace p131 := eq_true p131
        replace q131 := eq_true q131
        refine start_ (n := 25) (S := fun w' => w'.cell? (ad127.add ((x12_1).toNat * 2)) = some (.string ((rd_T63 l0 x12_1).f0)) ∧ w'.cell? ⟨(ad127.add ((x12_1).toNat * 2)).block, (ad127.add ((x12_1).toNat * 2)).off + 1, none⟩ = some (.string ((rd_T63 l0 x12_1).f1)) ∧ w'.cell? (ad128.add ((x12_1).toNat * 2)) = some (.string ((rd_T63 l1 x12_1).f0)) ∧ w'.cell? ⟨(ad128.add ((x12_1).toNat * 2)).block, (ad128.add ((x12_1).toNat * 2)).off + 1, none⟩ = some (.string ((rd_T63 l1 x12_1).f1)) ∧ w'.cell? (ad127.add ((x12_1).toNat * 2)) = some (.string ((rd_T63 l0 x12_1).f0)) ∧ w'.cell? ⟨(ad127.add ((x12_1).toNat * 2)).block, (ad127.add ((x12_1).toNat * 2)).off + 1, none⟩ = some (.string ((rd_T63 l0 x12_1).f1)) ∧ w'.cell? (ad128.add ((x12_1).toNat * 2)) = some (.string ((rd_T63 l1 x12_1).f0)) ∧ w'.cell? ⟨(ad128.add ((x12_1).toNat * 2)).block, (ad128.add ((x12_1).toNat * 2)).off + 1, none⟩ = some (.string ((rd_T63 l1 x12_1).f1))) (ds := []) #[false, false, false, false, false, false, false, false, false, false, false, false, false, false, false, false, false, false, false, false, false, false, false, false, false] (by kernel_rfl) rfl rfl ⟨((HB.out.cell (World.block_lt_of_cell? w _ hw127_0)).trans hw127_0), ((HB.out.cell (World.block_lt_of_cell? w _ hw127_1)).trans hw127_1), ((HB.out.cell (World.block_lt_of_cell? w _ hw128_0)).trans hw128_0), ((HB.out.cell (World.block_lt_of_cell? w _ hw128_1)).trans hw128_1), ((HB.out.cell (World.block_lt_of_cell? w _ hw130_0)).trans hw130_0), ((HB.out.cell (World.block_lt_of_cell? w _ hw130_1)).trans hw130_1), ((HB.out.cell (World.block_lt_of_cell? w _ hw131_0)).trans hw131_0), ((HB.out.cell (World.block_lt_of_cell? w _ hw131_1)).trans hw131_1)⟩ (fun hHeld => ?_); refine with_tabW labels_Cmp.tab4 labels_Cmp.bits4 (fun HT_ HW_ => ?_)
        generalize wr.drew = w12 at HB hx127_0 hx127_1 hx128_0 hx128_1 hx130_0 hx130_1 hx131_0 hx131_1 hHeld ⊢
        refine pure_ (i := 0) (N := some 15) (v := ?_) (a' := ?_) #[true, false, false, false, false, false, false, false, false, false, false, false, false, false, false, false, false, false, false, false, false, false, false, false, false] rfl rfl (any_of HT_.out (by kernel_rfl)) (fun _ _ _ h => h) (Or.inl ⟨by rfl, ?_⟩) ?_ ?_
        rotate_left
        ·intro w'
         go_simp
         with_reducible rfl
        rotate_left
        ·simp only [Act.put, List.setIfInBounds_toArray, List.set_cons_zero, List.set_cons_succ, i64_w, i32_w]
         rfl
        refine pure_ (i := 1) (N := some 16) (v := ?_) (a' := ?_) #[true, true, false, false, false, false, false, false, false, false, false, false, false, false, false, false, false, false, false, false, false, false, false, false, false] rfl rfl (any_of HT_.out (by kernel_rfl)) (fun _ _ _ h => h) (Or.inl ⟨by rfl, ?_⟩) ?_ ?_
        rotate_left
        ·intro w'
         go_simp
         with_reducible rfl
        rotate_left
        ·simp only [Act.put, List.setIfInBounds_toArray, List.set_cons_zero, List.set_cons_succ, i64_w, i32_w]
         rfl
        refine pure_ (i := 2) (N := some 17) (v := ?_) (a' := ?_) #[true, true, true, false, false, false, false, false, false, false, false, false, false, false, false, false, false, false, false, false, false, false, false, false, false] rfl rfl (any_of HT_.out (by kernel_rfl)) (fun _ _ _ h => h) (Or.inl ⟨by rfl, ?_⟩) ?_ ?_
        rotate_left
        ·intro w'
         go_simp
         with_reducible rfl
        rotate_left
        ·simp only [Act.put, List.setIfInBounds_toArray, List.set_cons_zero, List.set_cons_succ, i64_w, i32_w]
         rfl
        refine pure_ (i := 3) (N := some 18) (v := ?_) (a' := ?_) #[true, true, true, true, false, false, false, false, false, false, false, false, false, false, false, false, false, false, false, false, false, false, false, false, false] rfl rfl (any_of HT_.out (by kernel_rfl)) (fun _ _ _ h => h) (Or.inl ⟨by rfl, ?_⟩) ?_ ?_
        rotate_left
        ·intro w'
         go_simp
         with_reducible rfl
        rotate_left
        ·simp only [Act.put, List.setIfInBounds_toArray, List.set_cons_zero, List.set_cons_succ, i64_w, i32_w]
         rfl
        refine pure_ (i := 5) (N := some 20) (v := ?_) (a' := ?_) #[true, true, true, true, false, true, false, false, false, false, false, false, false, false, false, false, false, false, false, false, false, false, false, false, false] rfl rfl (any_of HT_.out (by kernel_rfl)) (fun _ _ _ h => h) (Or.inl ⟨by rfl, ?_⟩) ?_ ?_
        rotate_left
        ·intro w'
         go_simp
         with_reducible rfl
        rotate_left
        ·simp only [Act.put, List.setIfInBounds_toArray, List.set_cons_zero, List.set_cons_succ, i64_w, i32_w]
         rfl
        refine pure_ (i := 6) (N := some 21) (v := ?_) (a' := ?_) #[true, true, true, true, false, true, true, false, false, false, false, false, false, false, false, false, false, false, false, false, false, false, false, false, false] rfl rfl (any_of HT_.out (by kernel_rfl)) (fun _ _ _ h => h) (Or.inl ⟨by rfl, ?_⟩) ?_ ?_
        rotate_left
        ·intro w'
         go_simp
         with_reducible rfl
        rotate_left
        ·simp only [Act.put, List.setIfInBounds_toArray, List.set_cons_zero, List.set_cons_succ, i64_w, i32_w]
         rfl
        refine pure_ (i := 7) (N := some 22) (v := ?_) (a' := ?_) #[true, true, true, true, false, true, true, true, false, false, false, false, false, false, false, false, false, false, false, false, false, false, false, false, false] rfl rfl (any_of HT_.out (by kernel_rfl)) (fun _ _ _ h => h) (Or.inl ⟨by rfl, ?_⟩) ?_ ?_
        rotate_left
        ·intro w'
         go_simp
         with_reducible rfl
        rotate_left
        ·simp only [Act.put, List.setIfInBounds_toArray, List.set_cons_zero, List.set_cons_succ, i64_w, i32_w]
         rfl
        refine pure_ (i := 8) (N := some 23) (v := ?_) (a' := ?_) #[true, true, true, true, false, true, true, true, true, false, false, false, false, false, false, false, false, false, false, false, false, false, false, false, false] rfl rfl (any_of HT_.out (by kernel_rfl)) (fun _ _ _ h => h) (Or.inl ⟨by rfl, ?_⟩) ?_ ?_
        rotate_left
        ·intro w'
         go_simp
         with_reducible rfl
        rotate_left
        ·simp only [Act.put, List.setIfInBounds_toArray, List.set_cons_zero, List.set_cons_succ, i64_w, i32_w]
         rfl
        refine pure_ (i := 11) (N := some 26) (v := ?_) (a' := ?_) #[true, true, true, true, false, true, true, true, true, false, false, true, false, false, false, false, false, false, false, false, false, false, false, false, false] rfl rfl (any_of HT_.out (by kernel_rfl)) (fun _ _ _ h => h) (Or.inl ⟨by rfl, ?_⟩) ?_ ?_
        rotate_left
        ·intro w'
         go_simp
         with_reducible rfl
        rotate_left
        ·simp only [Act.put, List.setIfInBounds_toArray, List.set_cons_zero, List.set_cons_succ, i64_w, i32_w]
         rfl
        refine pure_ (i := 12) (N := some 27) (v := ?_) (a' := ?_) #[true, true, true, true, false, true, true, true, true, false, false, true, true, false, false, false, false, false, false, false, false, false, false, false, false] rfl rfl (any_of HT_.out (by kernel_rfl)) (fun _ _ _ h => h) (Or.inl ⟨by rfl, ?_⟩) ?_ ?_
        rotate_left
        ·intro w'
         go_simp
         with_reducible rfl
        rotate_left
        ·simp only [Act.put, List.setIfInBounds_toArray, List.set_cons_zero, List.set_cons_succ, i64_w, i32_w]
         rfl
        refine pure_ (i := 13) (N := some 28) (v := ?_) (a' := ?_) #[true, true, true, true, false, true, true, true, true, false, false, true, true, true, false, false, false, false, false, false, false, false, false, false, false] rfl rfl (any_of HT_.out (by kernel_rfl)) (fun _ _ _ h => h) (Or.inl ⟨by rfl, ?_⟩) ?_ ?_
        rotate_left
        ·intro w'
         go_simp
         with_reducible rfl
        rotate_left
        ·simp only [Act.put, List.setIfInBounds_toArray, List.set_cons_zero, List.set_cons_succ, i64_w, i32_w]
         rfl
        refine pure_ (i := 14) (N := some 29) (v := ?_) (a' := ?_) #[true, true, true, true, false, true, true, true, true, false, false, true, true, true, true, false, false, false, false, false, false, false, false, false, false] rfl rfl (any_of HT_.out (by kernel_rfl)) (fun _ _ _ h => h) (Or.inl ⟨by rfl, ?_⟩) ?_ ?_
        rotate_left
        ·intro w'
         go_simp
         with_reducible rfl
        rotate_left
        ·simp only [Act.put, List.setIfInBounds_toArray, List.set_cons_zero, List.set_cons_succ, i64_w, i32_w]
         rfl
        refine pure_ (i := 16) (N := some 31) (v := ?_) (a' := ?_) #[true, true, true, true, false, true, true, true, true, false, false, true, true, true, true, false, true, false, false, false, false, false, false, false, false] rfl rfl (any_of HT_.out (by kernel_rfl)) (fun _ _ _ h => h) (Or.inl ⟨by rfl, ?_⟩) ?_ ?_
        rotate_left
        ·intro w'
         go_simp
         with_reducible rfl
        rotate_left
        ·simp only [Act.put, List.setIfInBounds_toArray, List.set_cons_zero, List.set_cons_succ, i64_w, i32_w]
         rfl
        refine pure_ (i := 17) (N := some 32) (v := ?_) (a' := ?_) #[true, true, true, true, false, true, true, true, true, false, false, true, true, true, true, false, true, true, false, false, false, false, false, false, false] rfl rfl (any_of HT_.out (by kernel_rfl)) (fun _ _ _ h => h) (Or.inl ⟨by rfl, ?_⟩) ?_ ?_
        rotate_left
        ·intro w'
         go_simp
         with_reducible rfl
        rotate_left
        ·simp only [Act.put, List.setIfInBounds_toArray, List.set_cons_zero, List.set_cons_succ, i64_w, i32_w]
         rfl
        refine pure_ (i := 18) (N := some 33) (v := ?_) (a' := ?_) #[true, true, true, true, false, true, true, true, true, false, false, true, true, true, true, false, true, true, true, false, false, false, false, false, false] rfl rfl (any_of HT_.out (by kernel_rfl)) (fun _ _ _ h => h) (Or.inl ⟨by rfl, ?_⟩) ?_ ?_
        rotate_left
        ·intro w'
         go_simp
         with_reducible rfl
        rotate_left
        ·simp only [Act.put, List.setIfInBounds_toArray, List.set_cons_zero, List.set_cons_succ, i64_w, i32_w]
         rfl
        refine pure_ (i := 19) (N := some 34) (v := ?_) (a' := ?_) #[true, true, true, true, false, true, true, true, true, false, false, true, true, true, true, false, true, true, true, true, false, false, false, false, false] rfl rfl (any_of HT_.out (by kernel_rfl)) (fun _ _ _ h => h) (Or.inl ⟨by rfl, ?_⟩) ?_ ?_
        rotate_left
        ·intro w'
         go_simp
         with_reducible rfl
        rotate_left
        ·simp only [Act.put, List.setIfInBounds_toArray, List.set_cons_zero, List.set_cons_succ, i64_w, i32_w]
         rfl
        refine take_ (i := 4) (N := some 19) (v := ?_) (a' := ?_) #[true, true, true, true, true, true, true, true, true, false, false, true, true, true, true, false, true, true, true, true, false, false, false, false, false] rfl rfl (take_ofW HT_.out HW_.out (by kernel_rfl)) (fun _ _ _ h => h) (Or.inl ⟨by rfl, ?_⟩) hHeld ?_ ?_
        rotate_left
        ·rintro w' ⟨s0, s1, s2, s3, s4, s5, s6, s7⟩
         go_simp
         with_reducible rfl
        rotate_left
        ·simp only [Act.put, List.setIfInBounds_toArray, List.set_cons_zero, List.set_cons_succ, i64_w, i32_w]
         rfl
        refine take_ (i := 9) (N := some 24) (v := ?_) (a' := ?_) #[true, true, true, true, true, true, true, true, true, true, false, true, true, true, true, false, true, true, true, true, false, false, false, false, false] rfl rfl (take_ofW HT_.out HW_.out (by kernel_rfl)) (fun _ _ _ h => h) (Or.inl ⟨by rfl, ?_⟩) hHeld ?_ ?_
        rotate_left
        ·rintro w' ⟨s0, s1, s2, s3, s4, s5, s6, s7⟩
         go_simp
         with_reducible rfl
        rotate_left
        ·simp only [Act.put, List.setIfInBounds_toArray, List.set_cons_zero, List.set_cons_succ, i64_w, i32_w]
         rfl
        refine take_ (i := 15) (N := some 30) (v := ?_) (a' := ?_) #[true, true, true, true, true, true, true, true, true, true, false, true, true, true, true, true, true, true, true, true, false, false, false, false, false] rfl rfl (take_ofW HT_.out HW_.out (by kernel_rfl)) (fun _ _ _ h => h) (Or.inl ⟨by rfl, ?_⟩) hHeld ?_ ?_
        rotate_left
        ·rintro w' ⟨s0, s1, s2, s3, s4, s5, s6, s7⟩
         go_simp
         with_reducible rfl
        rotate_left
        ·simp only [Act.put, List.setIfInBounds_toArray, List.set_cons_zero, List.set_cons_succ, i64_w, i32_w]
         rfl
        refine take_ (i := 20) (N := some 35) (v := ?_) (a' := ?_) #[true, true, true, true, true, true, true, true, true, true, false, true, true, true, true, true, true, true, true, true, true, false, false, false, false] rfl rfl (take_ofW HT_.out HW_.out (by kernel_rfl)) (fun _ _ _ h => h) (Or.inl ⟨by rfl, ?_⟩) hHeld ?_ ?_
        rotate_left
        ·rintro w' ⟨s0, s1, s2, s3, s4, s5, s6, s7⟩
         go_simp
         with_reducible rfl
        rotate_left
        ·simp only [Act.put, List.setIfInBounds_toArray, List.set_cons_zero, List.set_cons_succ, i64_w, i32_w]
         rfl
        refine one_ (i := 10) (N := some 25) #[true, true, true, true, true, true, true, true, true, true, true, true, true, true, true, true, true, true, true, true, true, false, false, false, false] rfl rfl (one_of HT_.out (by kernel_rfl)) (by decide) (fun K hK => ?_)
        refine goes_ Try.func157 (by kernel_rfl) rfl #[.string ((rd_T63 l0 x12_1).f0), .string ((rd_T63 l1 x12_1).f0)] (by rfl) rfl rfl (by (try simp only [List.map_toArray, List.map_cons, List.map_nil]); first | done | rfl | (simp only [List.length_drop, List.length_take]; rfl)) ?_
        with_reducible refine (cmp_Compare_string.calls ((rd_T63 l0 x12_1).f0) ((rd_T63 l1 x12_1).f0) t129 _ A8.out).mono ?_
        rintro e w' ⟨rfl, ⟨nd, rfl⟩⟩
        refine ⟨_, rfl, ?_⟩
        refine hK.out _ _ ⟨((HB.out.cell (World.block_lt_of_cell? w _ hw127_0)).trans hw127_0), ((HB.out.cell (World.block_lt_of_cell? w _ hw127_1)).trans hw127_1), ((HB.out.cell (World.block_lt_of_cell? w _ hw128_0)).trans hw128_0), ((HB.out.cell (World.block_lt_of_cell? w _ hw128_1)).trans hw128_1), ((HB.out.cell (World.block_lt_of_cell? w _ hw130_0)).trans hw130_0), ((HB.out.cell (World.block_lt_of_cell? w _ hw130_1)).trans hw130_1), ((HB.out.cell (World.block_lt_of_cell? w _ hw131_0)).trans hw131_0), ((HB.out.cell (World.block_lt_of_cell? w _ hw131_1)).trans hw131_1)⟩ (fun hHeld => ?_)
        clear hK K
        refine norm_ (a' := ?_) ?_ ?_
        rotate_left
        ·show Act.put _ (some 25) _ = _
         simp only [Act.put, List.setIfInBounds_toArray, List.set_cons_zero, List.set_cons_succ, i64_w, i32_w]
         rfl
        refine one_ (i := 21) (N := some 36) #[true, true, true, true, true, true, true, true, true, true, true, true, true, true, true, true, true, true, true, true, true, true, false, false, false] rfl rfl (one_of HT_.out (by kernel_rfl)) (by decide) (fun K hK => ?_)
        refine goes_ Try.func157 (by kernel_rfl) rfl #[.string ((rd_T63 l0 x12_1).f1), .string ((rd_T63 l1 x12_1).f1)] (by rfl) rfl rfl (by (try simp only [List.map_toArray, List.map_cons, List.map_nil]); first | done | rfl | (simp only [List.length_drop, List.length_take]; rfl)) ?_
        with_reducible refine (cmp_Compare_string.calls ((rd_T63 l0 x12_1).f1) ((rd_T63 l1 x12_1).f1) t132 _ A9.out).mono ?_
        rintro e w' ⟨rfl, ⟨nd, rfl⟩⟩
        refine ⟨_, rfl, ?_⟩
        refine hK.out _ _ ⟨((HB.out.cell (World.block_lt_of_cell? w _ hw127_0)).trans hw127_0), ((HB.out.cell (World.block_lt_of_cell? w _ hw127_1)).trans hw127_1), ((HB.out.cell (World.block_lt_of_cell? w _ hw128_0)).trans hw128_0), ((HB.out.cell (World.block_lt_of_cell? w _ hw128_1)).trans hw128_1), ((HB.out.cell (World.block_lt_of_cell? w _ hw130_0)).trans hw130_0), ((HB.out.cell (World.block_lt_of_cell? w _ hw130_1)).trans hw130_1), ((HB.out.cell (World.block_lt_of_cell? w _ hw131_0)).trans hw131_0), ((HB.out.cell (World.block_lt_of_cell? w _ hw131_1)).trans hw131_1)⟩ (fun hHeld => ?_)
        clear hK K
        refine norm_ (a' := ?_) ?_ ?_
        rotate_left
        ·show Act.put _ (some 36) _ = _
         simp only [Act.put, List.setIfInBounds_toArray, List.set_cons_zero, List.set_cons_succ, i64_w, i32_w]
         rfl
        refine one_ (i := 22) (N := some 37) #[true, true, true, true, true, true, true, true, true, true, true, true, true, true, true, true, true, true, true, true, true, true, true, false, false] rfl rfl (one_of HT_.out (by kernel_rfl)) (by decide) (fun K hK => ?_)
        refine Go.Proofs.Ytjilnpbgclnecac.XBd.R_lit_stepD (Kd.int .i64) _ 3 ?hg (N := 37) ?hd (xs := ([t129, t132] : List Int)) (inner := [.int .i64 t129, .int .i64 t132]) (ok := fun _ => True) (okp := fun _ => True) ?hr ?hp (fun _ hk => hk) trivial (Go.Proofs.Ytjilnpbgclnecac.XBd.BD.refl _) (Nat.le_refl _) (by simp) ?_; (case hd => rfl); (case hg => rfl); (case hr => first | (go_simp; done) | (go_simp; rfl)); (case hp => exact (Reps.one (show Kd.M (Kd.int .i64) _ _ _ t129 [.int .i64 t129] from rfl) (Reps.one (show Kd.M (Kd.int .i64) _ _ _ t132 [.int .i64 t132] from rfl) (Reps.none _ _))))
        intro v134 w13 ho14 hb hg_ hnew_
        clear hg_ hnew_
        (first | rw [← Ny133.out] at ho14 | (simp only [Int.reduceToNat] at ho14; rw [← Ny133.out] at ho14))
        have n0_ := Aside0.mk (Kd.R_lower ho14 (Go.Proofs.Ytjilnpbgclnecac.XBd.bd_size (by repeat (first | (with_reducible first | exact HB.out | apply Go.Proofs.Ytjilnpbgclnecac.XBd.bd_alloc | apply Go.Proofs.Ytjilnpbgclnecac.XBd.bd_drewN | apply Go.Proofs.Ytjilnpbgclnecac.XBd.bd_drew1) | exact HB.out))))
        have n1_ := Aside0.mk (Go.Proofs.Ytjilnpbgclnecac.XBd.bd_step (by repeat (first | (with_reducible first | exact HB.out | apply Go.Proofs.Ytjilnpbgclnecac.XBd.bd_alloc | apply Go.Proofs.Ytjilnpbgclnecac.XBd.bd_drewN | apply Go.Proofs.Ytjilnpbgclnecac.XBd.bd_drew1) | exact HB.out)) hb)
        clear HB
        have HO135 := n0_
        have HB := n1_
        clear n0_ n1_
        clear hb ho14
        obtain ⟨Ao15, co15, eo15⟩ := Kd.R_slice HO135.out
        (first | subst eo15 | (injection eo15 with f1_ f2_ f3_; have f4_ := f1_.symm; have f5_ := f3_.symm; clear f1_ f2_ f3_; subst f4_; subst f5_))
        refine hK.out _ _ ⟨((HB.out.cell (World.block_lt_of_cell? w _ hw127_0)).trans hw127_0), ((HB.out.cell (World.block_lt_of_cell? w _ hw127_1)).trans hw127_1), ((HB.out.cell (World.block_lt_of_cell? w _ hw128_0)).trans hw128_0), ((HB.out.cell (World.block_lt_of_cell? w _ hw128_1)).trans hw128_1), ((HB.out.cell (World.block_lt_of_cell? w _ hw130_0)).trans hw130_0), ((HB.out.cell (World.block_lt_of_cell? w _ hw130_1)).trans hw130_1), ((HB.out.cell (World.block_lt_of_cell? w _ hw131_0)).trans hw131_0), ((HB.out.cell (World.block_lt_of_cell? w _ hw131_1)).trans hw131_1)⟩ (fun hHeld => ?_)
        clear hK K
        refine norm_ (a' := ?_) ?_ ?_
        rotate_left
        ·show Act.put _ (some 37) _ = _
         simp only [Act.put, List.setIfInBounds_toArray, List.set_cons_zero, List.set_cons_succ, i64_w, i32_w]
         rfl
        refine one_ (i := 23) (N := some 38) #[true, true, true, true, true, true, true, true, true, true, true, true, true, true, true, true, true, true, true, true, true, true, true, true, false] rfl rfl (one_of HT_.out (by kernel_rfl)) (by decide) (fun K hK => ?_)
        refine goes_ Try.func156 (by kernel_rfl) rfl #[.slice Ao15 y133.length co15] (by rfl) rfl rfl (by (try simp only [List.map_toArray, List.map_cons, List.map_nil]); first | done | rfl | (simp only [List.length_drop, List.length_take]; rfl)) ?_
        with_reducible refine (cmp_Or_int.calls k1 _ _ y133 t136 _ ?side1 ?side2 A10.out).mono ?_
        (case side1 => repeat (first | exact (Kd.R_reads' HO135.out).2.2 | (with_reducible refine Kd.C_alloc ?_ _) | (with_reducible refine Kd.C_drewN ?_ _) | (with_reducible refine Kd.C_drew ?_)))
        (case side2 => exact (Kd.R_reads' HO135.out).2.1)
        rintro e w' ⟨rfl, ⟨nd, rfl⟩⟩
        refine ⟨_, rfl, ?_⟩
        refine hK.out _ _ ⟨((HB.out.cell (World.block_lt_of_cell? w _ hw127_0)).trans hw127_0), ((HB.out.cell (World.block_lt_of_cell? w _ hw127_1)).trans hw127_1), ((HB.out.cell (World.block_lt_of_cell? w _ hw128_0)).trans hw128_0), ((HB.out.cell (World.block_lt_of_cell? w _ hw128_1)).trans hw128_1), ((HB.out.cell (World.block_lt_of_cell? w _ hw130_0)).trans hw130_0), ((HB.out.cell (World.block_lt_of_cell? w _ hw130_1)).trans hw130_1), ((HB.out.cell (World.block_lt_of_cell? w _ hw131_0)).trans hw131_0), ((HB.out.cell (World.block_lt_of_cell? w _ hw131_1)).trans hw131_1)⟩ (fun hHeld => ?_)
        clear hK K
        refine norm_ (a' := ?_) ?_ ?_
        rotate_left
        ·show Act.put _ (some 38) _ = _
         simp only [Act.put, List.setIfInBounds_toArray, List.set_cons_zero, List.set_cons_succ, i64_w, i32_w]
         rfl
        refine pure_ (i := 24) (N := some 6) (v := ?_) (a' := ?_) #[true, true, true, true, true, true, true, true, true, true, true, true, true, true, true, true, true, true, true, true, true, true, true, true, true] rfl rfl (any_of HT_.out (by kernel_rfl)) (fun _ _ _ h => h) (Or.inl ⟨by rfl, ?_⟩) ?_ ?_
        rotate_left
        ·intro w'
         go_simp
         with_reducible rfl
        rotate_left
        ·simp only [Act.put, List.setIfInBounds_toArray, List.set_cons_zero, List.set_cons_succ, i64_w, i32_w]
         rfl
        refine done_ (done_of HT_.out (by kernel_rfl)) ?_
        try go_wp2
        go_roundg k1
        case measure => have := HK1.out; omega
        case rel => exact ⟨(wrap64 (x12_1 + 1)), (by first | rfl | (simp; done) | (simp [*]; done)), H', ⟨by have := HK1.out; omega⟩, ⟨by repeat (first | (with_reducible first | exact HB.out | apply Go.Proofs.Ytjilnpbgclnecac.XBd.bd_alloc | apply Go.Proofs.Ytjilnpbgclnecac.XBd.bd_drewN | apply Go.Proofs.Ytjilnpbgclnecac.XBd.bd_drew1) | exact HB.out)⟩⟩
       ·rw [if_neg c11] at H
        have c11b0 : (t136 == 0) = false := beq_eq_false_iff_ne.mpr c11
        have c11b1 : (t136 != 0) = true := bne_iff_ne.mpr c11
        obtain rfl := Option.some.inj H
        try go_wp2
        have n0_ := Aside0.mk (Go.Proofs.Ytjilnpbgclnecac.XBd.bd_drew1 HB.out)
        clear HB
        have HB := n0_
        clear n0_
        have p127 : 0 ≤ (x12_1 : Int) := of_decide_eq_true (by first | (with_reducible assumption) | assumption)
        have q127 : x12_1 < (l0.length : Int) := of_decide_eq_true (by first | (with_reducible assumption) | assumption)
        obtain ⟨ad127, e127, hx127_0, hx127_1⟩ := at_T63 HR0.out x12_1 p127 q127
        have hw127_1 := hx127_1
        have hw127_0 := hx127_0
        cases e127
        replace hx127_0 := (HB.out.cell (World.block_lt_of_cell? w _ hx127_0)).trans hx127_0
        replace hx127_1 := (HB.out.cell (World.block_lt_of_cell? w _ hx127_1)).trans hx127_1
        replace p127 := eq_true p127
        replace q127 := eq_true q127
        have p128 : 0 ≤ (x12_1 : Int) := of_decide_eq_true (by first | (with_reducible assumption) | assumption)
        have q128 : x12_1 < (l1.length : Int) := of_decide_eq_true (by first | (with_reducible assumption) | assumption)
        obtain ⟨ad128, e128, hx128_0, hx128_1⟩ := at_T63 HR1.out x12_1 p128 q128
        have hw128_1 := hx128_1
        have hw128_0 := hx128_0
        cases e128
        replace hx128_0 := (HB.out.cell (World.block_lt_of_cell? w _ hx128_0)).trans hx128_0
        replace hx128_1 := (HB.out.cell (World.block_lt_of_cell? w _ hx128_1)).trans hx128_1
        replace p128 := eq_true p128
        replace q128 := eq_true q128
        have p130 : 0 ≤ (x12_1 : Int) := of_decide_eq_true (by first | (with_reducible assumption) | assumption)
        have q130 : x12_1 < (l0.length : Int) := of_decide_eq_true (by first | (with_reducible assumption) | assumption)
        obtain ⟨ad130, e130, hx130_0, hx130_1⟩ := at_T63 HR0.out x12_1 p130 q130
        have hw130_1 := hx130_1
        have hw130_0 := hx130_0
        obtain rfl : ad127 = ad130 := (by injection e130)
        replace hx130_0 := (HB.out.cell (World.block_lt_of_cell? w _ hx130_0)).trans hx130_0
        replace hx130_1 := (HB.out.cell (World.block_lt_of_cell? w _ hx130_1)).trans hx130_1
        replace p130 := eq_true p130
        replace q130 := eq_true q130
        have p131 : 0 ≤ (x12_1 : Int) := of_decide_eq_true (by first | (with_reducible assumption) | assumption)
        have q131 : x12_1 < (l1.length : Int) := of_decide_eq_true (by first | (with_reducible assumption) | assumption)
        obtain ⟨ad131, e131, hx131_0, hx131_1⟩ := at_T63 HR1.out x12_1 p131 q131
        have hw131_1 := hx131_1
        have hw131_0 := hx131_0
        obtain rfl : ad128 = ad131 := (by injection e131)
        replace hx131_0 := (HB.out.cell (World.block_lt_of_cell? w _ hx131_0)).trans hx131_0
        replace hx131_1 := (HB.out.cell (World.block_lt_of_cell? w _ hx131_1)).trans hx131_1
        replace p131 := eq_true p131
        replace q131 := eq_true q131
        refine start_ (n := 25) (S := fun w' => w'.cell? (ad127.add ((x12_1).toNat * 2)) = some (.string ((rd_T63 l0 x12_1).f0)) ∧ w'.cell? ⟨(ad127.add ((x12_1).toNat * 2)).block, (ad127.add ((x12_1).toNat * 2)).off + 1, none⟩ = some (.string ((rd_T63 l0 x12_1).f1)) ∧ w'.cell? (ad128.add ((x12_1).toNat * 2)) = some (.string ((rd_T63 l1 x12_1).f0)) ∧ w'.cell? ⟨(ad128.add ((x12_1).toNat * 2)).block, (ad128.add ((x12_1).toNat * 2)).off + 1, none⟩ = some (.string ((rd_T63 l1 x12_1).f1)) ∧ w'.cell? (ad127.add ((x12_1).toNat * 2)) = some (.string ((rd_T63 l0 x12_1).f0)) ∧ w'.cell? ⟨(ad127.add ((x12_1).toNat * 2)).block, (ad127.add ((x12_1).toNat * 2)).off + 1, none⟩ = some (.string ((rd_T63 l0 x12_1).f1)) ∧ w'.cell? (ad128.add ((x12_1).toNat * 2)) = some (.string ((rd_T63 l1 x12_1).f0)) ∧ w'.cell? ⟨(ad128.add ((x12_1).toNat * 2)).block, (ad128.add ((x12_1).toNat * 2)).off + 1, none⟩ = some (.string ((rd_T63 l1 x12_1).f1))) (ds := []) #[false, false, false, false, false, false, false, false, false, false, false, false, false, false, false, false, false, false, false, false, false, false, false, false, false] (by kernel_rfl) rfl rfl ⟨((HB.out.cell (World.block_lt_of_cell? w _ hw127_0)).trans hw127_0), ((HB.out.cell (World.block_lt_of_cell? w _ hw127_1)).trans hw127_1), ((HB.out.cell (World.block_lt_of_cell? w _ hw128_0)).trans hw128_0), ((HB.out.cell (World.block_lt_of_cell? w _ hw128_1)).trans hw128_1), ((HB.out.cell (World.block_lt_of_cell? w _ hw130_0)).trans hw130_0), ((HB.out.cell (World.block_lt_of_cell? w _ hw130_1)).trans hw130_1), ((HB.out.cell (World.block_lt_of_cell? w _ hw131_0)).trans hw131_0), ((HB.out.cell (World.block_lt_of_cell? w _ hw131_1)).trans hw131_1)⟩ (fun hHeld => ?_); refine with_tabW labels_Cmp.tab4 labels_Cmp.bits4 (fun HT_ HW_ => ?_)
        generalize wr.drew = w16 at HB hx127_0 hx127_1 hx128_0 hx128_1 hx130_0 hx130_1 hx131_0 hx131_1 hHeld ⊢
        refine pure_ (i := 0) (N := some 15) (v := ?_) (a' := ?_) #[true, false, false, false, false, false, false, false, false, false, false, false, false, false, false, false, false, false, false, false, false, false, false, false, false] rfl rfl (any_of HT_.out (by kernel_rfl)) (fun _ _ _ h => h) (Or.inl ⟨by rfl, ?_⟩) ?_ ?_
        rotate_left
        ·intro w'
         go_simp
         with_reducible rfl
        rotate_left
        ·simp only [Act.put, List.setIfInBounds_toArray, List.set_cons_zero, List.set_cons_succ, i64_w, i32_w]
         rfl
        refine pure_ (i := 1) (N := some 16) (v := ?_) (a' := ?_) #[true, true, false, false, false, false, false, false, false, false, false, false, false, false, false, false, false, false, false, false, false, false, false, false, false] rfl rfl (any_of HT_.out (by kernel_rfl)) (fun _ _ _ h => h) (Or.inl ⟨by rfl, ?_⟩) ?_ ?_
        rotate_left
        ·intro w'
         go_simp
         with_reducible rfl
        rotate_left
        ·simp only [Act.put, List.setIfInBounds_toArray, List.set_cons_zero, List.set_cons_succ, i64_w, i32_w]
         rfl
        refine pure_ (i := 2) (N := some 17) (v := ?_) (a' := ?_) #[true, true, true, false, false, false, false, false, false, false, false, false, false, false, false, false, false, false, false, false, false, false, false, false, false] rfl rfl (any_of HT_.out (by kernel_rfl)) (fun _ _ _ h => h) (Or.inl ⟨by rfl, ?_⟩) ?_ ?_
        rotate_left
        ·intro w'
         go_simp
         with_reducible rfl
        rotate_left
        ·simp only [Act.put, List.setIfInBounds_toArray, List.set_cons_zero, List.set_cons_succ, i64_w, i32_w]
         rfl
        refine pure_ (i := 3) (N := some 18) (v := ?_) (a' := ?_) #[true, true, true, true, false, false, false, false, false, false, false, false, false, false, false, false, false, false, false, false, false, false, false, false, false] rfl rfl (any_of HT_.out (by kernel_rfl)) (fun _ _ _ h => h) (Or.inl ⟨by rfl, ?_⟩) ?_ ?_
        rotate_left
        ·intro w'
         go_simp
         with_reducible rfl
        rotate_left
        ·simp only [Act.put, List.setIfInBounds_toArray, List.set_cons_zero, List.set_cons_succ, i64_w, i32_w]
         rfl
        refine pure_ (i := 5) (N := some 20) (v := ?_) (a' := ?_) #[true, true, true, true, false, true, false, false, false, false, false, false, false, false, false, false, false, false, false, false, false, false, false, false, false] rfl rfl (any_of HT_.out (by kernel_rfl)) (fun _ _ _ h => h) (Or.inl ⟨by rfl, ?_⟩) ?_ ?_
        rotate_left
        ·intro w'
         go_simp
         with_reducible rfl
        rotate_left
        ·simp only [Act.put, List.setIfInBounds_toArray, List.set_cons_zero, List.set_cons_succ, i64_w, i32_w]
         rfl
        refine pure_ (i := 6) (N := some 21) (v := ?_) (a' := ?_) #[true, true, true, true, false, true, true, false, false, false, false, false, false, false, false, false, false, false, false, false, false, false, false, false, false] rfl rfl (any_of HT_.out (by kernel_rfl)) (fun _ _ _ h => h) (Or.inl ⟨by rfl, ?_⟩) ?_ ?_
        rotate_left
        ·intro w'
         go_simp
         with_reducible rfl
        rotate_left
        ·simp only [Act.put, List.setIfInBounds_toArray, List.set_cons_zero, List.set_cons_succ, i64_w, i32_w]
         rfl
        refine pure_ (i := 7) (N := some 22) (v := ?_) (a' := ?_) #[true, true, true, true, false, true, true, true, false, false, false, false, false, false, false, false, false, false, false, false, false, false, false, false, false] rfl rfl (any_of HT_.out (by kernel_rfl)) (fun _ _ _ h => h) (Or.inl ⟨by rfl, ?_⟩) ?_ ?_
        rotate_left
        ·intro w'
         go_simp
         with_reducible rfl
        rotate_left
        ·simp only [Act.put, List.setIfInBounds_toArray, List.set_cons_zero, List.set_cons_succ, i64_w, i32_w]
         rfl
        refine pure_ (i := 8) (N := some 23) (v := ?_) (a' := ?_) #[true, true, true, true, false, true, true, true, true, false, false, false, false, false, false, false, false, false, false, false, false, false, false, false, false] rfl rfl (any_of HT_.out (by kernel_rfl)) (fun _ _ _ h => h) (Or.inl ⟨by rfl, ?_⟩) ?_ ?_
        rotate_left
        ·intro w'
         go_simp
         with_reducible rfl
        rotate_left
        ·simp only [Act.put, List.setIfInBounds_toArray, List.set_cons_zero, List.set_cons_succ, i64_w, i32_w]
         rfl
        refine pure_ (i := 11) (N := some 26) (v := ?_) (a' := ?_) #[true, true, true, true, false, true, true, true, true, false, false, true, false, false, false, false, false, false, false, false, false, false, false, false, false] rfl rfl (any_of HT_.out (by kernel_rfl)) (fun _ _ _ h => h) (Or.inl ⟨by rfl, ?_⟩) ?_ ?_
        rotate_left
        ·intro w'
         go_simp
         with_reducible rfl
        rotate_left
        ·simp only [Act.put, List.setIfInBounds_toArray, List.set_cons_zero, List.set_cons_succ, i64_w, i32_w]
         rfl
        refine pure_ (i := 12) (N := some 27) (v := ?_) (a' := ?_) #[true, true, true, true, false, true, true, true, true, false, false, true, true, false, false, false, false, false, false, false, false, false, false, false, false] rfl rfl (any_of HT_.out (by kernel_rfl)) (fun _ _ _ h => h) (Or.inl ⟨by rfl, ?_⟩) ?_ ?_
        rotate_left
        ·intro w'
         go_simp
         with_reducible rfl
        rotate_left
        ·simp only [Act.put, List.setIfInBounds_toArray, List.set_cons_zero, List.set_cons_succ, i64_w, i32_w]
         rfl
        refine pure_ (i := 13) (N := some 28) (v := ?_) (a' := ?_) #[true, true, true, true, false, true, true, true, true, false, false, true, true, true, false, false, false, false, false, false, false, false, false, false, false] rfl rfl (any_of HT_.out (by kernel_rfl)) (fun _ _ _ h => h) (Or.inl ⟨by rfl, ?_⟩) ?_ ?_
        rotate_left
        ·intro w'
         go_simp
         with_reducible rfl
        rotate_left
        ·simp only [Act.put, List.setIfInBounds_toArray, List.set_cons_zero, List.set_cons_succ, i64_w, i32_w]
         rfl
        refine pure_ (i := 14) (N := some 29) (v := ?_) (a' := ?_) #[true, true, true, true, false, true, true, true, true, false, false, true, true, true, true, false, false, false, false, false, false, false, false, false, false] rfl rfl (any_of HT_.out (by kernel_rfl)) (fun _ _ _ h => h) (Or.inl ⟨by rfl, ?_⟩) ?_ ?_
        rotate_left
        ·intro w'
         go_simp
         with_reducible rfl
        rotate_left
        ·simp only [Act.put, List.setIfInBounds_toArray, List.set_cons_zero, List.set_cons_succ, i64_w, i32_w]
         rfl
        refine pure_ (i := 16) (N := some 31) (v := ?_) (a' := ?_) #[true, true, true, true, false, true, true, true, true, false, false, true, true, true, true, false, true, false, false, false, false, false, false, false, false] rfl rfl (any_of HT_.out (by kernel_rfl)) (fun _ _ _ h => h) (Or.inl ⟨by rfl, ?_⟩) ?_ ?_
        rotate_left
        ·intro w'
         go_simp
         with_reducible rfl
        rotate_left
        ·simp only [Act.put, List.setIfInBounds_toArray, List.set_cons_zero, List.set_cons_succ, i64_w, i32_w]
         rfl
        refine pure_ (i := 17) (N := some 32) (v := ?_) (a' := ?_) #[true, true, true, true, false, true, true, true, true, false, false, true, true, true, true, false, true, true, false, false, false, false, false, false, false] rfl rfl (any_of HT_.out (by kernel_rfl)) (fun _ _ _ h => h) (Or.inl ⟨by rfl, ?_⟩) ?_ ?_
        rotate_left
        ·intro w'
         go_simp
         with_reducible rfl
        rotate_left
        ·simp only [Act.put, List.setIfInBounds_toArray, List.set_cons_zero, List.set_cons_succ, i64_w, i32_w]
         rfl
        refine pure_ (i := 18) (N := some 33) (v := ?_) (a' := ?_) #[true, true, true, true, false, true, true, true, true, false, false, true, true, true, true, false, true, true, true, false, false, false, false, false, false] rfl rfl (any_of HT_.out (by kernel_rfl)) (fun _ _ _ h => h) (Or.inl ⟨by rfl, ?_⟩) ?_ ?_
        rotate_left
        ·intro w'
         go_simp
         with_reducible rfl
        rotate_left
        ·simp only [Act.put, List.setIfInBounds_toArray, List.set_cons_zero, List.set_cons_succ, i64_w, i32_w]
         rfl
        refine pure_ (i := 19) (N := some 34) (v := ?_) (a' := ?_) #[true, true, true, true, false, true, true, true, true, false, false, true, true, true, true, false, true, true, true, true, false, false, false, false, false] rfl rfl (any_of HT_.out (by kernel_rfl)) (fun _ _ _ h => h) (Or.inl ⟨by rfl, ?_⟩) ?_ ?_
        rotate_left
        ·intro w'
         go_simp
         with_reducible rfl
        rotate_left
        ·simp only [Act.put, List.setIfInBounds_toArray, List.set_cons_zero, List.set_cons_succ, i64_w, i32_w]
         rfl
        refine take_ (i := 4) (N := some 19) (v := ?_) (a' := ?_) #[true, true, true, true, true, true, true, true, true, false, false, true, true, true, true, false, true, true, true, true, false, false, false, false, false] rfl rfl (take_ofW HT_.out HW_.out (by kernel_rfl)) (fun _ _ _ h => h) (Or.inl ⟨by rfl, ?_⟩) hHeld ?_ ?_
        rotate_left
        ·rintro w' ⟨s0, s1, s2, s3, s4, s5, s6, s7⟩
         go_simp
         with_reducible rfl
        rotate_left
        ·simp only [Act.put, List.setIfInBounds_toArray, List.set_cons_zero, List.set_cons_succ, i64_w, i32_w]
         rfl
        refine take_ (i := 9) (N := some 24) (v := ?_) (a' := ?_) #[true, true, true, true, true, true, true, true, true, true, false, true, true, true, true, false, true, true, true, true, false, false, false, false, false] rfl rfl (take_ofW HT_.out HW_.out (by kernel_rfl)) (fun _ _ _ h => h) (Or.inl ⟨by rfl, ?_⟩) hHeld ?_ ?_
        rotate_left
        ·rintro w' ⟨s0, s1, s2, s3, s4, s5, s6, s7⟩
         go_simp
         with_reducible rfl
        rotate_left
        ·simp only [Act.put, List.setIfInBounds_toArray, List.set_cons_zero, List.set_cons_succ, i64_w, i32_w]
         rfl
        refine take_ (i := 15) (N := some 30) (v := ?_) (a' := ?_) #[true, true, true, true, true, true, true, true, true, true, false, true, true, true, true, true, true, true, true, true, false, false, false, false, false] rfl rfl (take_ofW HT_.out HW_.out (by kernel_rfl)) (fun _ _ _ h => h) (Or.inl ⟨by rfl, ?_⟩) hHeld ?_ ?_
        rotate_left
        ·rintro w' ⟨s0, s1, s2, s3, s4, s5, s6, s7⟩
         go_simp
         with_reducible rfl
        rotate_left
        ·simp only [Act.put, List.setIfInBounds_toArray, List.set_cons_zero, List.set_cons_succ, i64_w, i32_w]
         rfl
        refine take_ (i := 20) (N := some 35) (v := ?_) (a' := ?_) #[true, true, true, true, true, true, true, true, true, true, false, true, true, true, true, true, true, true, true, true, true, false, false, false, false] rfl rfl (take_ofW HT_.out HW_.out (by kernel_rfl)) (fun _ _ _ h => h) (Or.inl ⟨by rfl, ?_⟩) hHeld ?_ ?_
        rotate_left
        ·rintro w' ⟨s0, s1, s2, s3, s4, s5, s6, s7⟩
         go_simp
         with_reducible rfl
        rotate_left
        ·simp only [Act.put, List.setIfInBounds_toArray, List.set_cons_zero, List.set_cons_succ, i64_w, i32_w]
         rfl
        refine one_ (i := 10) (N := some 25) #[true, true, true, true, true, true, true, true, true, true, true, true, true, true, true, true, true, true, true, true, true, false, false, false, false] rfl rfl (one_of HT_.out (by kernel_rfl)) (by decide) (fun K hK => ?_)
        refine goes_ Try.func157 (by kernel_rfl) rfl #[.string ((rd_T63 l0 x12_1).f0), .string ((rd_T63 l1 x12_1).f0)] (by rfl) rfl rfl (by (try simp only [List.map_toArray, List.map_cons, List.map_nil]); first | done | rfl | (simp only [List.length_drop, List.length_take]; rfl)) ?_
        with_reducible refine (cmp_Compare_string.calls ((rd_T63 l0 x12_1).f0) ((rd_T63 l1 x12_1).f0) t129 _ A8.out).mono ?_
        rintro e w' ⟨rfl, ⟨nd, rfl⟩⟩
        refine ⟨_, rfl, ?_⟩
        refine hK.out _ _ ⟨((HB.out.cell (World.block_lt_of_cell? w _ hw127_0)).trans hw127_0), ((HB.out.cell (World.block_lt_of_cell? w _ hw127_1)).trans hw127_1), ((HB.out.cell (World.block_lt_of_cell? w _ hw128_0)).trans hw128_0), ((HB.out.cell (World.block_lt_of_cell? w _ hw128_1)).trans hw128_1), ((HB.out.cell (World.block_lt_of_cell? w _ hw130_0)).trans hw130_0), ((HB.out.cell (World.block_lt_of_cell? w _ hw130_1)).trans hw130_1), ((HB.out.cell (World.block_lt_of_cell? w _ hw131_0)).trans hw131_0), ((HB.out.cell (World.block_lt_of_cell? w _ hw131_1)).trans hw131_1)⟩ (fun hHeld => ?_)
        clear hK K
        refine norm_ (a' := ?_) ?_ ?_
        rotate_left
        ·show Act.put _ (some 25) _ = _
         simp only [Act.put, List.setIfInBounds_toArray, List.set_cons_zero, List.set_cons_succ, i64_w, i32_w]
         rfl
        refine one_ (i := 21) (N := some 36) #[true, true, true, true, true, true, true, true, true, true, true, true, true, true, true, true, true, true, true, true, true, true, false, false, false] rfl rfl (one_of HT_.out (by kernel_rfl)) (by decide) (fun K hK => ?_)
        refine goes_ Try.func157 (by kernel_rfl) rfl #[.string ((rd_T63 l0 x12_1).f1), .string ((rd_T63 l1 x12_1).f1)] (by rfl) rfl rfl (by (try simp only [List.map_toArray, List.map_cons, List.map_nil]); first | done | rfl | (simp only [List.length_drop, List.length_take]; rfl)) ?_
        with_reducible refine (cmp_Compare_string.calls ((rd_T63 l0 x12_1).f1) ((rd_T63 l1 x12_1).f1) t132 _ A9.out).mono ?_
        rintro e w' ⟨rfl, ⟨nd, rfl⟩⟩
        refine ⟨_, rfl, ?_⟩
        refine hK.out _ _ ⟨((HB.out.cell (World.block_lt_of_cell? w _ hw127_0)).trans hw127_0), ((HB.out.cell (World.block_lt_of_cell? w _ hw127_1)).trans hw127_1), ((HB.out.cell (World.block_lt_of_cell? w _ hw128_0)).trans hw128_0), ((HB.out.cell (World.block_lt_of_cell? w _ hw128_1)).trans hw128_1), ((HB.out.cell (World.block_lt_of_cell? w _ hw130_0)).trans hw130_0), ((HB.out.cell (World.block_lt_of_cell? w _ hw130_1)).trans hw130_1), ((HB.out.cell (World.block_lt_of_cell? w _ hw131_0)).trans hw131_0), ((HB.out.cell (World.block_lt_of_cell? w _ hw131_1)).trans hw131_1)⟩ (fun hHeld => ?_)
        clear hK K
        refine norm_ (a' := ?_) ?_ ?_
        rotate_left
        ·show Act.put _ (some 36) _ = _
         simp only [Act.put, List.setIfInBounds_toArray, List.set_cons_zero, List.set_cons_succ, i64_w, i32_w]
         rfl
        refine one_ (i := 22) (N := some 37) #[true, true, true, true, true, true, true, true, true, true, true, true, true, true, true, true, true, true, true, true, true, true, true, false, false] rfl rfl (one_of HT_.out (by kernel_rfl)) (by decide) (fun K hK => ?_)
        refine Go.Proofs.Ytjilnpbgclnecac.XBd.R_lit_stepD (Kd.int .i64) _ 3 ?hg (N := 37) ?hd (xs := ([t129, t132] : List Int)) (inner := [.int .i64 t129, .int .i64 t132]) (ok := fun _ => True) (okp := fun _ => True) ?hr ?hp (fun _ hk => hk) trivial (Go.Proofs.Ytjilnpbgclnecac.XBd.BD.refl _) (Nat.le_refl _) (by simp) ?_; (case hd => rfl); (case hg => rfl); (case hr => first | (go_simp; done) | (go_simp; rfl)); (case hp => exact (Reps.one (show Kd.M (Kd.int .i64) _ _ _ t129 [.int .i64 t129] from rfl) (Reps.one (show Kd.M (Kd.int .i64) _ _ _ t132 [.int .i64 t132] from rfl) (Reps.none _ _))))
        intro v134 w17 ho18 hb hg_ hnew_
        clear hg_ hnew_
        (first | rw [← Ny133.out] at ho18 | (simp only [Int.reduceToNat] at ho18; rw [← Ny133.out] at ho18))
        have n0_ := Aside0.mk (Kd.R_lower ho18 (Go.Proofs.Ytjilnpbgclnecac.XBd.bd_size (by repeat (first | (with_reducible first | exact HB.out | apply Go.Proofs.Ytjilnpbgclnecac.XBd.bd_alloc | apply Go.Proofs.Ytjilnpbgclnecac.XBd.bd_drewN | apply Go.Proofs.Ytjilnpbgclnecac.XBd.bd_drew1) | exact HB.out))))
        have n1_ := Aside0.mk (Go.Proofs.Ytjilnpbgclnecac.XBd.bd_step (by repeat (first | (with_reducible first | exact HB.out | apply Go.Proofs.Ytjilnpbgclnecac.XBd.bd_alloc | apply Go.Proofs.Ytjilnpbgclnecac.XBd.bd_drewN | apply Go.Proofs.Ytjilnpbgclnecac.XBd.bd_drew1) | exact HB.out)) hb)
        clear HB
        have HO135 := n0_
        have HB := n1_
        clear n0_ n1_
        clear hb ho18
        obtain ⟨Ao19, co19, eo19⟩ := Kd.R_slice HO135.out
        (first | subst eo19 | (injection eo19 with f1_ f2_ f3_; have f4_ := f1_.symm; have f5_ := f3_.symm; clear f1_ f2_ f3_; subst f4_; subst f5_))
        refine hK.out _ _ ⟨((HB.out.cell (World.block_lt_of_cell? w _ hw127_0)).trans hw127_0), ((HB.out.cell (World.block_lt_of_cell? w _ hw127_1)).trans hw127_1), ((HB.out.cell (World.block_lt_of_cell? w _ hw128_0)).trans hw128_0), ((HB.out.cell (World.block_lt_of_cell? w _ hw128_1)).trans hw128_1), ((HB.out.cell (World.block_lt_of_cell? w _ hw130_0)).trans hw130_0), ((HB.out.cell (World.block_lt_of_cell? w _ hw130_1)).trans hw130_1), ((HB.out.cell (World.block_lt_of_cell? w _ hw131_0)).trans hw131_0), ((HB.out.cell (World.block_lt_of_cell? w _ hw131_1)).trans hw131_1)⟩ (fun hHeld => ?_)
        clear hK K
        refine norm_ (a' := ?_) ?_ ?_
        rotate_left
        ·show Act.put _ (some 37) _ = _
         simp only [Act.put, List.setIfInBounds_toArray, List.set_cons_zero, List.set_cons_succ, i64_w, i32_w]
         rfl
        refine one_ (i := 23) (N := some 38) #[true, true, true, true, true, true, true, true, true, true, true, true, true, true, true, true, true, true, true, true, true, true, true, true, false] rfl rfl (one_of HT_.out (by kernel_rfl)) (by decide) (fun K hK => ?_)
        refine goes_ Try.func156 (by kernel_rfl) rfl #[.slice Ao19 y133.length co19] (by rfl) rfl rfl (by (try simp only [List.map_toArray, List.map_cons, List.map_nil]); first | done | rfl | (simp only [List.length_drop, List.length_take]; rfl)) ?_
        with_reducible refine (cmp_Or_int.calls k1 _ _ y133 t136 _ ?side1 ?side2 A10.out).mono ?_
        (case side1 => repeat (first | exact (Kd.R_reads' HO135.out).2.2 | (with_reducible refine Kd.C_alloc ?_ _) | (with_reducible refine Kd.C_drewN ?_ _) | (with_reducible refine Kd.C_drew ?_)))
        (case side2 => exact (Kd.R_reads' HO135.out).2.1)
        rintro e w' ⟨rfl, ⟨nd, rfl⟩⟩
        refine ⟨_, rfl, ?_⟩
        refine hK.out _ _ ⟨((HB.out.cell (World.block_lt_of_cell? w _ hw127_0)).trans hw127_0), ((HB.out.cell (World.block_lt_of_cell? w _ hw127_1)).trans hw127_1), ((HB.out.cell (World.block_lt_of_cell? w _ hw128_0)).trans hw128_0), ((HB.out.cell (World.block_lt_of_cell? w _ hw128_1)).trans hw128_1), ((HB.out.cell (World.block_lt_of_cell? w _ hw130_0)).trans hw130_0), ((HB.out.cell (World.block_lt_of_cell? w _ hw130_1)).trans hw130_1), ((HB.out.cell (World.block_lt_of_cell? w _ hw131_0)).trans hw131_0), ((HB.out.cell (World.block_lt_of_cell? w _ hw131_1)).trans hw131_1)⟩ (fun hHeld => ?_)
        clear hK K
        refine norm_ (a' := ?_) ?_ ?_
        rotate_left
        ·show Act.put _ (some 38) _ = _
         simp only [Act.put, List.setIfInBounds_toArray, List.set_cons_zero, List.set_cons_succ, i64_w, i32_w]
         rfl
        refine pure_ (i := 24) (N := some 6) (v := ?_) (a' := ?_) #[true, true, true, true, true, true, true, true, true, true, true, true, true, true, true, true, true, true, true, true, true, true, true, true, true] rfl rfl (any_of HT_.out (by kernel_rfl)) (fun _ _ _ h => h) (Or.inl ⟨by rfl, ?_⟩) ?_ ?_
        rotate_left
        ·intro w'
         go_simp
         with_reducible rfl
        rotate_left
        ·simp only [Act.put, List.setIfInBounds_toArray, List.set_cons_zero, List.set_cons_succ, i64_w, i32_w]
         rfl
        refine done_ (done_of HT_.out (by kernel_rfl)) ?_
        try go_wp2
        go_ret
        exact ⟨by first | rfl | (simp [errW_none, errW_some] <;> rfl) | (simp only [← hji3]; first | rfl | (simp [errW_none, errW_some] <;> rfl)) | (simp [*, errW_none, errW_some] <;> rfl), by repeat (first | (with_reducible first | exact HB.out | apply Go.Proofs.Ytjilnpbgclnecac.XBd.bd_alloc | apply Go.Proofs.Ytjilnpbgclnecac.XBd.bd_drewN | apply Go.Proofs.Ytjilnpbgclnecac.XBd.bd_drew1) | exact HB.out)⟩
      ·rw [if_neg c7] at H
       exact absurd H (by simp)
     ·rw [if_neg c6] at H
      exact absurd H (by simp)
    ·rw [if_neg c5] at H
     exact absurd H (by simp)
   ·rw [if_neg c4] at H
    have c4b0 : decide (x12_1 < ji3) = false := decide_eq_false c4
    clear c4
    replace H := Option.bind_eq_some_iff.mp H
    obtain ⟨t126, A200, H⟩ := H
    replace H : (some t126) = some r := H
    have A20 := Aside0.mk A200
    clear A200
    obtain rfl := Option.some.inj H
    go_wp2_with (first | ((with_reducible refine gate_callee (f := 158) rfl ?_); refine goesL_ (some 47) rfl rfl Try.func158 (by kernel_rfl) rfl #[.int .i64 (l0.length : Int), .int .i64 (l1.length : Int)] rfl (by (try simp only [List.map_toArray, List.map_cons, List.map_nil]); first | done | rfl | (simp only [List.length_drop, List.length_take]; rfl)) ?_; (with_reducible refine (cmp_Compare_int.calls (l0.length : Int) (l1.length : Int) t126 _ A20.out).mono ?_); rintro e w' ⟨rfl, ⟨nd, rfl⟩⟩; refine ⟨_, rfl, ?_⟩))
    go_ret
    exact ⟨by first | rfl | (simp [errW_none, errW_some] <;> rfl) | (simp only [← hji3]; first | rfl | (simp [errW_none, errW_some] <;> rfl)) | (simp [*, errW_none, errW_some] <;> rfl), by repeat (first | (with_reducible first | exact HB.out | apply Go.Proofs.Ytjilnpbgclnecac.XBd.bd_alloc | apply Go.Proofs.Ytjilnpbgclnecac.XBd.bd_drewN | apply Go.Proofs.Ytjilnpbgclnecac.XBd.bd_drew1) | exact HB.out)⟩
end
section
open Go.Sort Go.Shelf Go.Lib Go.Proofs.Ytjilnpbgclnecac.XSr Go.Proofs.Ytjilnpbgclnecac.XSt Go.Proofs.Ytjilnpbgclnecac.XSs Go.Proofs.Ytjilnpbgclnecac.XMg Go.Proofs.Ytjilnpbgclnecac.XH
/-- A series that came in: where its two rows lie. -/
structure merge_Series.H where
  A : Option Addr
  c : Nat
  B : Option Addr
  d : Nat
  x : S78
instance : Inhabited merge_Series.H := ⟨⟨none, 0, none, 0, z78⟩⟩
def merge_Series.enc (h : merge_Series.H) : List Value := [.slice h.A h.x.f0.length h.c, .slice h.B h.x.f1.length h.d]
def merge_Series.HV (w : World) (h : merge_Series.H) : Prop := h.x.f0.length ≤ h.c ∧ k63.C w h.A h.x.f0.length h.x.f0 ∧ h.x.f1.length ≤ h.d ∧ k54.C w h.B h.x.f1.length h.x.f1
theorem merge_Series.HV.below {w W : World} {h : merge_Series.H} (hv : merge_Series.HV w h) (hb : Below w.heap.size w W) : merge_Series.HV W h := ⟨hv.1, Kd.C_below hv.2.1 hb, hv.2.2.1, Kd.C_below hv.2.2.2 hb⟩
def merge_Series.kH : Kd merge_Series.H where
  sz := 2
  E := []
  K := fun _ x cs => cs = merge_Series.enc x
  M := fun _ _ _ x cs => cs = merge_Series.enc x
  K_len := fun h => by rw [h]; rfl
  K_one := fun h u hu => by
    rw [h] at hu
    simp only [merge_Series.enc, List.mem_cons, List.not_mem_nil, or_false] at hu
    rcases hu with rfl | rfl <;> rfl
  K_below := fun _ h => h
  K_of_M := fun h => h
  M_mono := fun _ h => h
  M_bound := fun h => h
  M_move := fun _ h => h
  M_lower := fun _ h => h
theorem merge_Series.R_own {W : World} {base : Nat} {ok : Nat → Prop} {v : Value} {l : List merge_Series.H} (h : merge_Series.kH.R 78 W base ok v l) : W.ownsRow base 78 2 v l.length (l.flatMap merge_Series.enc) := R_cells (d := merge_Series.kH) (enc := merge_Series.enc) (fun h => h) h
theorem merge_Series.own_R {W : World} {base : Nat} {v : Value} {l : List merge_Series.H} (h : W.ownsRow base 78 2 v l.length (l.flatMap merge_Series.enc)) : merge_Series.kH.R 78 W base (fun _ => True) v l := cells_R (d := merge_Series.kH) (enc := merge_Series.enc) (fun _ => rfl) (fun _ _ _ _ => rfl) h (fun _ _ => trivial)
/-- Of a row that came in: where its elements' rows lie. -/
theorem merge_Series.lift {w : World} {A : Option Addr} {n : Nat} {xs : List S78} (h : Kd.C k78 w A n xs) : ∃ hs : List merge_Series.H, hs.map (·.x) = xs ∧ (∀ h ∈ hs, merge_Series.HV w h) ∧ Kd.C merge_Series.kH w A n hs := by
  obtain ⟨h1, h2, h3⟩ := h
  by_cases hn : 0 < n
  · obtain ⟨ad, rfl, h4⟩ := h3 hn
    have key : ∀ j : Fin n, ∃ h : merge_Series.H, xs[j.val]? = some h.x ∧ merge_Series.HV w h ∧ ∀ i u, (merge_Series.enc h)[i]? = some u → w.cell? (ad.add (j.val * 2 + i)) = some u := by
      intro j
      have hj : j.val < xs.length := by rw [h1]; exact j.isLt
      obtain ⟨cs, hc1, hc2, hc3⟩ := h4 j.val xs[j.val] (List.getElem?_eq_getElem hj)
      obtain ⟨A0, c0, A1, c1, rfl, g1, g2, g3, g4⟩ := k78_open hc2
      exact ⟨⟨A0, c0, A1, c1, xs[j.val]⟩, List.getElem?_eq_getElem hj, ⟨g1, g2, g3, g4⟩, hc3⟩
    refine ⟨List.ofFn fun j => Classical.choose (key j), ?_, ?_, ?_, h2, fun _ => ⟨ad, rfl, ?_⟩⟩
    · apply List.ext_getElem
      · simp [h1]
      · intro i hi hi2
        have hin : i < n := by rw [h1] at hi2; exact hi2
        have := (Classical.choose_spec (key ⟨i, hin⟩)).1
        have e := this.symm.trans (List.getElem?_eq_getElem hi2)
        simp only [List.getElem_map, List.getElem_ofFn]
        exact Option.some.inj e
    · intro h hh
      obtain ⟨j, rfl⟩ := List.mem_ofFn.1 hh
      exact (Classical.choose_spec (key j)).2.1
    · simp
    · intro j p hp
      have hjn : j < n := by
        have := (List.getElem?_eq_some_iff.1 hp).1
        simpa using this
      have e : p = Classical.choose (key ⟨j, hjn⟩) := by
        rw [List.getElem?_ofFn, dif_pos hjn] at hp
        exact (Option.some.inj hp).symm
      subst e
      exact ⟨_, rfl, rfl, (Classical.choose_spec (key ⟨j, hjn⟩)).2.2⟩
  · have hx : xs = [] := List.eq_nil_of_length_eq_zero (by omega)
    subst hx
    exact ⟨[], rfl, (fun h hh => nomatch hh), h1, h2, fun hp => absurd hp hn⟩
/-! ### the comparer -/
theorem merge_Series.cmpS (a b : ByteArray) : cmp_Compare_string.f a b = some (Go.Proofs.Ytjilnpbgclnecac.XLab.sc a.toList b.toList) := by
  unfold cmp_Compare_string.f cmp_isNaN_string.f Go.Proofs.Ytjilnpbgclnecac.XLab.sc
  simp only [Option.bind_some, bne_self_eq_false]
  rw [if_neg (by decide), if_neg (by decide)]
  split
  · rfl
  · split <;> rfl
theorem merge_Series.cmpI (a b : Int) : cmp_Compare_int.f a b = some (if a < b then -1 else if a > b then 1 else 0) := by
  unfold cmp_Compare_int.f cmp_isNaN_int.f
  simp only [Option.bind_some, bne_self_eq_false]
  rw [if_neg (by decide), if_neg (by decide)]
  split
  · rfl
  · split <;> rfl
theorem merge_Series.cmpOr (a b : Int) : Ev (fun k => cmp_Or_int.f k [a, b]) (if a ≠ 0 then a else b) := by
  unfold cmp_Or_int.f
  by_cases h : a = 0
  · by_cases h2 : b = 0
    · refine Go.Proofs.Ytjilnpbgclnecac.XP.ev_eq (Ev.of (fun k => (cmp_Or_int.mono_l k) _ _ _ _) (k := 3) (r := 0) ?_) (by simp [h, h2])
      simp [cmp_Or_int.l0, Go.Proofs.YtjilnpbgclnecacW.PrintWords.rd, h, h2, wrap64]
    · refine Go.Proofs.Ytjilnpbgclnecac.XP.ev_eq (Ev.of (fun k => (cmp_Or_int.mono_l k) _ _ _ _) (k := 2) (r := b) ?_) (by simp [h])
      simp [cmp_Or_int.l0, Go.Proofs.YtjilnpbgclnecacW.PrintWords.rd, h, h2, wrap64]
  · refine Go.Proofs.Ytjilnpbgclnecac.XP.ev_eq (Ev.of (fun k => (cmp_Or_int.mono_l k) _ _ _ _) (k := 1) (r := a) ?_) (by simp [h])
    simp [cmp_Or_int.l0, Go.Proofs.YtjilnpbgclnecacW.PrintWords.rd, h]
theorem merge_Series.rdB {l : List S63} {i : Nat} (h : i < l.length) : rd_T63 l (i : Int) = l[i] := by
  unfold rd_T63
  rw [Int.toNat_natCast, List.getD_eq_getElem?_getD, List.getElem?_eq_getElem h]; rfl
theorem merge_Series.labs_drop (l : List S63) {i : Nat} (h : i < l.length) : merge_Series.labs (l.drop i) = (l[i].f0.toList, l[i].f1.toList) :: merge_Series.labs (l.drop (i + 1)) := by
  rw [List.drop_eq_getElem_cons h]
  rfl
theorem merge_Series.cmp_l0 (a b : List S63) (m : Nat) (hm : m = min a.length b.length) (hn : m < 9223372036854775807) : ∀ (d i : Nat), i + d = m → Ev (fun k => labels_Cmp.l0 k a b (m : Int) (i : Int)) (Go.Proofs.Ytjilnpbgclnecac.XLab.lc (merge_Series.labs (a.drop i)) (merge_Series.labs (b.drop i))) := by
  intro d
  induction d with
  | zero =>
    intro i hi
    refine Ev.step (f := fun _ => (cmp_Compare_int.f (a.length : Int) (b.length : Int)).bind fun t126 => some t126) (fun k => ?_) (Go.Proofs.Ytjilnpbgclnecac.XP.ev_one_bind (merge_Series.cmpI _ _) (Go.Proofs.Ytjilnpbgclnecac.XP.ev_eq (Ev.now _) ?_))
    · rw [labels_Cmp.l0, if_neg (by omega)]
    · by_cases h1 : a.length ≤ i
      · rw [List.drop_of_length_le h1]
        by_cases h2 : b.length ≤ i
        · rw [List.drop_of_length_le h2, if_neg (by omega), if_neg (by omega)]
          rfl
        · rw [merge_Series.labs_drop b (by omega), if_pos (by omega)]
          rfl
      · rw [List.drop_of_length_le (show b.length ≤ i by omega), merge_Series.labs_drop a (by omega), if_neg (by omega), if_pos (by omega)]
        rfl
  | succ d ih =>
    intro i hi
    have h1 : i < a.length := by omega
    have h2 : i < b.length := by omega
    rw [merge_Series.labs_drop a h1, merge_Series.labs_drop b h2]
    refine Ev.step (f := fun k => (cmp_Compare_string.f a[i].f0 b[i].f0).bind fun t129 => (cmp_Compare_string.f a[i].f1 b[i].f1).bind fun t132 => (cmp_Or_int.f k [t129, t132]).bind fun t136 => if t136 = 0 then labels_Cmp.l0 k a b (m : Int) ((i + 1 : Nat) : Int) else some t136) (fun k => ?_) ?_
    · rw [labels_Cmp.l0, if_pos (by omega), if_pos (by omega), if_pos (by omega), if_pos (by omega), merge_Series.rdB h1, merge_Series.rdB h2, show wrap64 ((i : Int) + 1) = ((i + 1 : Nat) : Int) from by rw [Go.Proofs.Ytjilnpbgclnecac.XP.w64 (by omega) (by omega)]; omega]
    · refine Go.Proofs.Ytjilnpbgclnecac.XP.ev_one_bind (merge_Series.cmpS _ _) (Go.Proofs.Ytjilnpbgclnecac.XP.ev_one_bind (merge_Series.cmpS _ _) (Ev.bind (merge_Series.cmpOr _ _) ?_))
      by_cases z1 : Go.Proofs.Ytjilnpbgclnecac.XLab.sc a[i].f0.toList b[i].f0.toList = 0
      · by_cases z2 : Go.Proofs.Ytjilnpbgclnecac.XLab.sc a[i].f1.toList b[i].f1.toList = 0
        · exact Go.Proofs.Ytjilnpbgclnecac.XP.ev_if_pos (by simp [z1, z2]) (Go.Proofs.Ytjilnpbgclnecac.XP.ev_eq (ih (i + 1) (by omega)) (by simp [Go.Proofs.Ytjilnpbgclnecac.XLab.lc, z1, z2]))
        · exact Go.Proofs.Ytjilnpbgclnecac.XP.ev_if_neg (by simp [z1, z2]) (Go.Proofs.Ytjilnpbgclnecac.XP.ev_eq (Ev.now _) (by simp [Go.Proofs.Ytjilnpbgclnecac.XLab.lc, z1, z2]))
      · exact Go.Proofs.Ytjilnpbgclnecac.XP.ev_if_neg (by simp [z1]) (Go.Proofs.Ytjilnpbgclnecac.XP.ev_eq (Ev.now _) (by simp [Go.Proofs.Ytjilnpbgclnecac.XLab.lc, z1]))
theorem merge_Series.cmp_ev {a b : List S63} (ha : a.length < 9223372036854775807) (hb : b.length < 9223372036854775807) : ∃ k, labels_Cmp.f k a b = some (merge_Series.c a b) := by
  have h : Ev (fun k => labels_Cmp.f k a b) (merge_Series.c a b) := by
    unfold labels_Cmp.f
    rw [show mn (a.length : Int) (b.length : Int) = ((min a.length b.length : Nat) : Int) from by unfold mn; split <;> omega]
    exact merge_Series.cmp_l0 a b (min a.length b.length) rfl (by omega) (min a.length b.length) 0 (by omega)
  exact h.rounds
theorem merge_Series.cmp (A0 : Option Addr) (c0 : Nat) (a : List S63) (A1 : Option Addr) (c1 : Nat) (b : List S63) (w : World) (hr0 : Kd.C k63 w A0 a.length a) (hc0 : a.length ≤ c0) (hr1 : Kd.C k63 w A1 b.length b) (hc1 : b.length ≤ c1) (ha : a.length < 1099511627776) (hb : b.length < 1099511627776) :
    Calls Try.prog 106 #[.slice A0 a.length c0, .slice A1 b.length c1] w fun e w' => e = .returned (.int .i64 (merge_Series.c a b)) ∧ Go.Proofs.Ytjilnpbgclnecac.XBd.BD w w' := by
  obtain ⟨k, hk⟩ := merge_Series.cmp_ev (a := a) (b := b) (by omega) (by omega)
  exact labels_Cmp.growsB k A0 c0 a A1 c1 b _ w hr0 hc0 hr1 hc1 hk
set_option maxHeartbeats 4000000 in
set_option maxRecDepth 100000 in
theorem merge_Series.clos (x y : merge_Series.H) (W : World) (hx : merge_Series.HV W x) (hy : merge_Series.HV W y) (lx : x.x.f0.length < 1099511627776) (ly : y.x.f0.length < 1099511627776) :
    Calls Try.prog 105 #[.agg (merge_Series.enc x).toArray, .agg (merge_Series.enc y).toArray] W fun e w' => e = .returned (.int .i64 (merge_Series.c x.x.f0 y.x.f0)) ∧ ∃ q os', w' = Sort.grow (W.drewN q) os' := by
  have HC := fun (W1 : World) (hb : Below W.heap.size W W1) => Aside0.mk (merge_Series.cmp x.A x.c x.x.f0 y.A y.c y.x.f0 W1 (hx.below hb).2.1 hx.1 (hy.below hb).2.1 hy.1 lx ly)
  clear hx hy lx ly
  obtain ⟨A, c, B, d, x⟩ := x
  obtain ⟨A', c', B', d', y⟩ := y
  dsimp only at HC
  show Calls Try.prog 105 #[.agg #[.slice A x.f0.length c, .slice B x.f1.length d], .agg #[.slice A' y.f0.length c', .slice B' y.f1.length d']] W _
  obtain ⟨r, hr⟩ : ∃ r, r = merge_Series.c x.f0 y.f0 := ⟨_, rfl⟩
  rw [← hr] at HC ⊢
  clear hr
  generalize x.f0.length = n0 at *
  generalize x.f1.length = n1 at *
  generalize y.f0.length = n2 at *
  generalize y.f1.length = n3 at *
  have HB := fun (o1 o2 : Obj) => (below_alloc (below_alloc (Below.refl W.heap.size W) o1) o2)
  have HC2 := fun (o1 o2 : Obj) => HC _ (HB o1 o2)
  clear HC HB
  go_enter Try.func105, Try.ntmps105
  go_wp2_with (go_at_call 106; (with_reducible refine (HC2 _ _).out.mono ?_); rintro e w' ⟨rfl, hbd⟩)
  go_ret
  exact ⟨rfl, (Go.Proofs.Ytjilnpbgclnecac.XBd.bd_step (Go.Proofs.Ytjilnpbgclnecac.XBd.bd_alloc (Go.Proofs.Ytjilnpbgclnecac.XBd.bd_alloc (Go.Proofs.Ytjilnpbgclnecac.XBd.BD.refl W) _) _) hbd).grow⟩
/-! ### the sort -/
abbrev merge_Series.V (w : World) : Type := { p : merge_Series.H × Nat // merge_Series.HV w p.1 ∧ p.1.x.f0.length < 1099511627776 }
def merge_Series.encV {w : World} (p : merge_Series.V w) : List Value := merge_Series.enc p.1.1
def merge_Series.cf {w : World} (p q : merge_Series.V w) : Int := merge_Series.c p.1.1.x.f0 q.1.1.x.f0
theorem merge_Series.swo {w : World} : SWO (ltOf (merge_Series.cf (w := w))) where
  irrefl := fun x => by
    unfold ltOf merge_Series.cf
    have := merge_Series.c_ord.irr x.1.1.x.f0
    simpa using this
  trans := fun x y z h1 h2 => by
    unfold ltOf merge_Series.cf at *
    have := merge_Series.c_ord.tr x.1.1.x.f0 y.1.1.x.f0 z.1.1.x.f0 (by simpa using h1) (by simpa using h2)
    simpa using this
  ntrans := fun x y z h1 h2 => by
    unfold ltOf merge_Series.cf at *
    simp only [decide_eq_false_iff_not] at *
    intro h3
    have o := merge_Series.c_ord
    have a1 : ¬ 0 < merge_Series.c y.1.1.x.f0 x.1.1.x.f0 := fun h => h1 ((o.anti _ _).2 h)
    have a2 : ¬ 0 < merge_Series.c z.1.1.x.f0 y.1.1.x.f0 := fun h => h2 ((o.anti _ _).2 h)
    by_cases e1 : merge_Series.c y.1.1.x.f0 x.1.1.x.f0 = 0
    · rw [← (o.zero _ _).1 e1] at h3
      exact h2 h3
    · by_cases e2 : merge_Series.c z.1.1.x.f0 y.1.1.x.f0 = 0
      · rw [(o.zero _ _).1 e2] at h3
        exact h1 h3
      · have := o.tr _ _ _ (show merge_Series.c z.1.1.x.f0 y.1.1.x.f0 < 0 by omega) (show merge_Series.c y.1.1.x.f0 x.1.1.x.f0 < 0 by omega)
        have := (o.anti _ _).1 h3
        omega
theorem merge_Series.sort (g cap : Nat) (hs : List merge_Series.H) (w0 W : World) (hne : hs ≠ []) (hl : hs.length ≤ 140737488355328) (hv : ∀ h ∈ hs, merge_Series.HV w0 h ∧ h.x.f0.length < 1099511627776) (hb : Below w0.heap.size w0 W)
    (ho : W.ownsRow w0.heap.size 78 2 (.slice (some ⟨g, 0, none⟩) hs.length cap) hs.length (hs.flatMap merge_Series.enc)) :
    Calls Try.prog 104 #[.slice (some ⟨g, 0, none⟩) hs.length cap, .func (.func 105) #[] #[]] W fun e w' => e = .returned (.tuple #[]) ∧ ∃ srt : List (merge_Series.H × Nat), srt.Perm hs.zipIdx ∧
      (srt.Pairwise fun x y => merge_Series.c x.1.x.f0 y.1.x.f0 < 0 ∨ (merge_Series.c x.1.x.f0 y.1.x.f0 = 0 ∧ x.2 ≤ y.2)) ∧
      w'.ownsRow w0.heap.size 78 2 (.slice (some ⟨g, 0, none⟩) hs.length cap) hs.length ((srt.map (·.1)).flatMap merge_Series.enc) ∧ W.grownBy w' (some g) := by
  obtain ⟨x0, r0, hl0⟩ := List.exists_cons_of_ne_nil hne
  letI : Inhabited (merge_Series.V w0) := ⟨⟨(x0, 0), hv x0 (by rw [hl0]; exact List.mem_cons_self)⟩⟩
  have hm : ∀ p ∈ hs.zipIdx, p.1 ∈ hs := fun p hp => by
    obtain ⟨h, i⟩ := p
    exact List.fst_mem_of_mem_zipIdx hp
  let lA : List (merge_Series.V w0) := hs.zipIdx.attach.map fun p => ⟨p.1, hv _ (hm p.1 p.2)⟩
  have hval : lA.map (·.1) = hs.zipIdx := by
    show (hs.zipIdx.attach.map _).map _ = _
    rw [List.map_map]
    exact List.attach_map_subtype_val _
  have hlA : lA.length = hs.length := by simp [lA]
  have hflat : ∀ q : List (merge_Series.V w0), q.flatMap merge_Series.encV = ((q.map (·.1)).map (·.1)).flatMap merge_Series.enc := fun q => by
    induction q with
    | nil => rfl
    | cons x q ih => rw [List.flatMap_cons, List.map_cons, List.map_cons, List.flatMap_cons, ih]; rfl
  have hk : ∀ x : merge_Series.V w0, (merge_Series.encV x).length = 2 := fun _ => rfl
  have h1 : ∀ x : merge_Series.V w0, ∀ v ∈ merge_Series.encV x, v.oneCell' = true := fun x v hv => by
    have hv' : v ∈ merge_Series.enc x.1.1 := hv
    simp only [merge_Series.enc, List.mem_cons, List.not_mem_nil, or_false] at hv'
    rcases hv' with rfl | rfl <;> rfl
  have hoA : W.ownsRow w0.heap.size 78 2 (.slice (some ⟨g, 0, none⟩) hs.length cap) hs.length (lA.flatMap merge_Series.encV) := by
    rw [hflat, hval, List.zipIdx_map_fst]
    exact ho
  have hH : HoldsK merge_Series.encV 2 W g 0 lA.toArray := holdsK_of_own hk hoA hlA
  have hg : g < W.heap.size := own_lt ho g rfl
  have hg0 : w0.heap.size ≤ g := own_base ho g rfl
  have R : RowK merge_Series.encV 2 W g 0 lA.toArray := ⟨hk, h1, hH, hg⟩
  have eg : ∀ args w, (callFunc 105 args).run Try.prog w = .ok (.enter 105 args) w := enters_of Try.func105 (by kernel_rfl) rfl
  have hsz : lA.toArray.size = hs.length := by simpa using hlA
  have hC : CmpLays Try.prog 105 #[] (merge_Series.encV (w := w0)) 2 merge_Series.cf g 0 lA.toArray.size W := fun m os dk _ x y => by
    have hb2 : Below w0.heap.size w0 (sortWorldK merge_Series.encV 2 W g 0 m dk os) :=
      pw_below_grown hb (some g) hb.size (grownBy_sortedK (enc := merge_Series.encV) (k := 2) (w := W) (g := g) (n := m) (os := os) dk) (fun k hk => by injection hk with hk; subst hk; exact hg0)
    exact merge_Series.clos x.1.1 y.1.1 _ (x.2.1.below hb2) (y.2.1.below hb2) x.2.2 y.2.2
  have hcall := sortStable_w Go.Proofs.Ytjilnpbgclnecac.XSs.lays 2 Try.isAgg78 Try.sizeOf78 merge_Series.encV merge_Series.cf 105 #[] g 0 cap lA.toArray W eg hC R (by omega) (by omega) merge_Series.swo (by
    intro a b d' w' hd' hS hab hb'
    have := AnyQ.insertionSortCmpFunc_w (P := Try.prog) (ρ := Go.Proofs.Ytjilnpbgclnecac.insS_ren) Go.Proofs.Ytjilnpbgclnecac.insS 2 Try.isAgg78 Try.sizeOf78 merge_Series.encV merge_Series.cf 105 #[] g 0 cap a b lA.toArray d' W w' eg hC R hd'.symm hS merge_Series.swo hab (by omega) (by omega)
    rw [hd'] at this
    exact this) lA.toArray W rfl (SWK.start hH)
  rw [hsz] at hcall
  have ht : ∀ i, i < lA.toArray.size → (fun p : merge_Series.V w0 => p.1.2) lA.toArray[i]! = i := by
    intro i hi
    have hi' : i < lA.length := by simpa using hi
    have hi2 : i < hs.length := by omega
    rw [Go.Proofs.Ytjilnpbgclnecac.XMg.bang_mem hi']
    show lA[i].1.2 = i
    have e : (lA.map (·.1))[i]? = hs.zipIdx[i]? := by rw [hval]
    rw [List.getElem?_map, List.getElem?_eq_getElem hi', List.getElem?_eq_getElem (by simpa using hi2)] at e
    have e2 := Option.some.inj e
    rw [show lA[i].1 = _ from e2]
    simp
  obtain ⟨hp, hpw⟩ := stable_spec (τ := fun p : merge_Series.V w0 => p.1.2) merge_Series.swo lA.toArray ht
  obtain ⟨D, hD⟩ : ∃ D, D = stable (ltOf merge_Series.cf) lA.toArray := ⟨_, rfl⟩
  rw [← hD] at hcall hp hpw
  refine hcall.mono ?_
  rintro e w' ⟨rfl, hW⟩
  have hperm : D.toList.Perm lA := by simpa using hp
  obtain ⟨o1, o2⟩ := SWK.own (l' := D.toList) hk hoA (by rw [hperm.length_eq, hlA]) (by rw [Array.toArray_toList]; exact hW)
  rw [hflat] at o1
  refine ⟨rfl, D.toList.map (·.1), by rw [← hval]; exact hperm.map _, ?_, o1, o2⟩
  rw [List.pairwise_map]
  refine hpw.imp ?_
  intro x y h
  rw [le_iff] at h
  have o := merge_Series.c_ord
  obtain ⟨h1, h2⟩ := h
  unfold ltOf merge_Series.cf at h1 h2
  simp only [decide_eq_false_iff_not, decide_eq_true_eq] at h1 h2
  by_cases e : merge_Series.c x.1.1.x.f0 y.1.1.x.f0 < 0
  · exact .inl e
  · refine .inr ⟨?_, h2.resolve_left e⟩
    have : ¬ 0 < merge_Series.c x.1.1.x.f0 y.1.1.x.f0 := fun h => h1 ((o.anti _ _).2 h)
    omega
/-! ### the rows that the walk holds -/
theorem merge_Series.info78 : (Try.prog.info? 78).map (fun i => (i.zero, i.size, i.bytes)) = some (some (.agg #[(.slice none 0 0), (.slice none 0 0)]), 2, 48) := by kernel_rfl
theorem merge_Series.at_H {w : World} {A : Option Addr} {n : Nat} {xs : List merge_Series.H} (h : Kd.C merge_Series.kH w A n xs) (i : Nat) (h1 : i < n) (hx : i < xs.length) :
    ∃ ad, A = some ad ∧ w.cell? (ad.add (i * 2)) = some (.slice xs[i].A xs[i].x.f0.length xs[i].c) ∧ w.cell? ⟨(ad.add (i * 2)).block, (ad.add (i * 2)).off + 1, none⟩ = some (.slice xs[i].B xs[i].x.f1.length xs[i].d) := by
  obtain ⟨ad, c, e, _, hK, hc0⟩ := Kd.C_get h default (i : Int) (by omega) (by omega)
  have hc : ∀ j u, c[j]? = some u → w.cell? (ad.add ((i : Int).toNat * 2 + j)) = some u := hc0
  rw [Int.toNat_natCast] at hc hK
  have hK2 : c = merge_Series.enc (xs.getD i default) := hK
  have hg : xs.getD i default = xs[i] := by rw [List.getD_eq_getElem?_getD, List.getElem?_eq_getElem hx]; rfl
  rw [hg] at hK2
  subst hK2
  exact ⟨ad, e, hc 0 _ rfl, by rw [← add_field _ _ 1 (by omega)]; exact hc 1 _ rfl⟩
/-- The samples of a series, as a row's element. -/
def merge_Series.encL (h : merge_Series.H) : List Value := [.slice h.B h.x.f1.length h.d]
def merge_Series.kL : Kd merge_Series.H where
  sz := 1
  E := []
  K := fun _ x cs => cs = merge_Series.encL x
  M := fun _ _ _ x cs => cs = merge_Series.encL x
  K_len := fun h => by rw [h]; rfl
  K_one := fun h u hu => by
    rw [h] at hu
    rw [List.mem_singleton.1 hu]
    rfl
  K_below := fun _ h => h
  K_of_M := fun h => h
  M_mono := fun _ h => h
  M_bound := fun h => h
  M_move := fun _ h => h
  M_lower := fun _ h => h
theorem merge_Series.lists_C {W : World} {A : Option Addr} {n : Nat} {hs : List merge_Series.H} (h : Kd.C merge_Series.kL W A n hs) (hv : ∀ h ∈ hs, merge_Series.HV W h) : Kd.C (Kd.slice 54 k54) W A n (hs.map fun h => h.x.f1) := by
  obtain ⟨h1, h2, h3⟩ := h
  refine ⟨by rw [List.length_map]; exact h1, h2, fun hn => ?_⟩
  obtain ⟨ad, rfl, h4⟩ := h3 hn
  refine ⟨ad, rfl, fun j p hj => ?_⟩
  rw [List.getElem?_map] at hj
  obtain ⟨q, hq, rfl⟩ := Option.map_eq_some_iff.1 hj
  obtain ⟨c, c1, c2, c3⟩ := h4 j q hq
  have c2' : c = merge_Series.encL q := c2
  subst c2'
  have hqv := hv q (List.mem_of_getElem? hq)
  exact ⟨_, rfl, ⟨q.B, q.d, rfl, hqv.2.2.1, hqv.2.2.2⟩, c3⟩
set_option maxHeartbeats 2000000 in
theorem merge_Series.ins_nil (A : Option Addr) (cap : Nat) (fv : Value) (w : World) : Calls Try.prog 195 #[.slice A 0 cap, .int .i64 0, .int .i64 0, fv] w fun e w' => e = .returned (.tuple #[]) ∧ w' = w := by
  go_enter Try.func195, Try.ntmps195
  go_wp2
  refine wp_loop_rounds 1 ?_
  rw [rounds_succ]
  go_wp2
  go_end0
  exact ⟨rfl, rfl⟩
set_option maxHeartbeats 2000000 in
theorem merge_Series.sort_nil (A : Option Addr) (cap : Nat) (fv : Value) (w : World) : Calls Try.prog 104 #[.slice A 0 cap, fv] w fun e w' => e = .returned (.tuple #[]) ∧ w' = w := by
  have h184 : Calls Try.prog 155 #[.slice A 0 cap, .int .i64 0, fv] w fun e w' => e = .returned (.tuple #[]) ∧ w' = w := by
    go_enter Try.func155, Try.ntmps155
    go_wp2
    refine wp_loop_rounds 1 ?_
    rw [rounds_succ]
    go_wp2_with (go_at_call 195; refine (merge_Series.ins_nil _ _ _ _).mono ?_; rintro e w' ⟨rfl, rfl⟩)
    refine wp_loop_rounds 1 ?_
    rw [rounds_succ]
    go_wp2
    go_end0
    exact ⟨rfl, rfl⟩
  go_enter Try.func104, Try.ntmps104
  go_wp2_with (go_at_call 155; refine h184.mono ?_; rintro e w' ⟨rfl, rfl⟩)
  go_end0
  exact ⟨rfl, rfl⟩
/-- What stands in a run of equal labels, put in behind all that is less. -/
theorem merge_Series.done {all : List S78} {hs : List merge_Series.H} {srt : List (merge_Series.H × Nat)} {out : List S78} (hall : hs.map (·.x) = all) (hp : srt.Perm hs.zipIdx)
    (hpw : srt.Pairwise fun x y => merge_Series.c x.1.x.f0 y.1.x.f0 < 0 ∨ (merge_Series.c x.1.x.f0 y.1.x.f0 = 0 ∧ x.2 ≤ y.2))
    (h : Go.Proofs.Ytjilnpbgclnecac.XSer.Is merge_Series.c merge_Samples.key ((srt.map fun p => merge_Series.pr p.1.x)) (out.map merge_Series.pr)) : out = merge_Series.ser all := by
  have o := merge_Series.c_ord
  have h2 : Go.Proofs.Ytjilnpbgclnecac.XSer.Is merge_Series.c merge_Samples.key (all.map merge_Series.pr) (out.map merge_Series.pr) := by
    refine h.of_cat fun lab => ?_
    have hp' : (srt.map fun p => (merge_Series.pr p.1.x, p.2)).Perm (all.map merge_Series.pr).zipIdx := by
      have := hp.map (fun p : merge_Series.H × Nat => (merge_Series.pr p.1.x, p.2))
      rw [← hall, List.map_map, List.zipIdx_map]
      exact this
    have := Go.Proofs.Ytjilnpbgclnecac.XSer.cat_sort (c := merge_Series.c) hp' lab (by
      rw [List.pairwise_map]
      refine hpw.imp ?_
      intro x y hxy e1 e2
      rcases hxy with hxy | hxy
      · have a1 : x.1.x.f0 = lab := (o.zero _ _).1 e1
        have a2 : y.1.x.f0 = lab := (o.zero _ _).1 e2
        rw [a1, a2] at hxy
        exact absurd hxy (o.irr _)
      · exact hxy.2)
    rw [List.map_map] at this
    exact this
  have h3 := Go.Proofs.Ytjilnpbgclnecac.XSer.Is.uniq o h2 (Go.Proofs.Ytjilnpbgclnecac.XSer.refser_is o (all.map merge_Series.pr))
  unfold merge_Series.ser
  rw [← h3, List.map_map]
  exact (List.map_id'' (fun x => rfl) out).symm
def merge_Series.le (x y : merge_Series.H) : Prop := merge_Series.c x.x.f0 y.x.f0 < 0 ∨ merge_Series.c x.x.f0 y.x.f0 = 0
theorem merge_Series.less_next {L dn rest tl : List merge_Series.H} {x0 : merge_Series.H} {n : Nat} (hp : L.Pairwise merge_Series.le) (hs : L = dn ++ rest) (hl : ∀ x ∈ dn, ∀ y ∈ rest, merge_Series.c x.x.f0 y.x.f0 < 0) (h0 : rest = x0 :: tl) (h1 : 1 ≤ n)
    (hrun : ∀ y ∈ rest.take n, merge_Series.c y.x.f0 x0.x.f0 = 0) (hend : ∀ h : n < rest.length, merge_Series.c rest[n].x.f0 x0.x.f0 ≠ 0) : ∀ x ∈ dn ++ rest.take n, ∀ y ∈ rest.drop n, merge_Series.c x.x.f0 y.x.f0 < 0 := by
  have o := merge_Series.c_ord
  intro x hx y hy
  rcases List.mem_append.1 hx with hx | hx
  · exact hl x hx y (List.mem_of_mem_drop hy)
  · have hpr : rest.Pairwise merge_Series.le := by rw [hs] at hp; exact (List.pairwise_append.1 hp).2.1
    obtain ⟨m, hm, rfl⟩ := List.mem_iff_getElem.1 hy
    rw [List.length_drop] at hm
    rw [List.getElem_drop]
    have hn : n < rest.length := by omega
    have hxe : x.x.f0 = x0.x.f0 := (o.zero _ _).1 (hrun x hx)
    have e0 : rest[0]'(by omega) = x0 := by subst h0; rfl
    have a1 : merge_Series.c x0.x.f0 rest[n].x.f0 < 0 := by
      have := List.pairwise_iff_getElem.1 hpr 0 n (by omega) hn (by omega)
      rw [e0] at this
      rcases this with h | h
      · exact h
      · exact absurd ((o.zero _ _).2 ((o.zero _ _).1 h).symm) (hend hn)
    rw [hxe]
    by_cases hm0 : m = 0
    · subst hm0
      exact a1
    · have := List.pairwise_iff_getElem.1 hpr n (n + m) hn (by omega) (by omega)
      rcases this with h | h
      · exact o.tr _ _ _ a1 h
      · rw [← (o.zero _ _).1 h]; exact a1
/-- Between two rounds: what is put together, what is left. -/
structure merge_Series.Q (W2 W : World) (L dn rest : List merge_Series.H) (v6 : Value) (A : Option Addr) (cp : Nat) (out : List S78) : Prop where
  split : L = dn ++ rest
  cap : rest.length ≤ cp
  row : Kd.C merge_Series.kH W2 A rest.length rest
  row2 : Kd.R k78 78 W W2.heap.size (fun _ => True) v6 out
  below : Below W2.heap.size W2 W
  is : Go.Proofs.Ytjilnpbgclnecac.XSer.Is merge_Series.c merge_Samples.key (dn.map fun h => merge_Series.pr h.x) (out.map merge_Series.pr)
  less : ∀ x ∈ dn, ∀ y ∈ rest, merge_Series.c x.x.f0 y.x.f0 < 0
  len : out.length ≤ dn.length
theorem merge_Series.Q.on {W2 W W' : World} {L dn rest : List merge_Series.H} {v6 : Value} {A : Option Addr} {cp : Nat} {out : List S78} (q : merge_Series.Q W2 W L dn rest v6 A cp out) (hb : Below W.heap.size W W') : merge_Series.Q W2 W' L dn rest v6 A cp out :=
  ⟨q.split, q.cap, q.row, Kd.R_below q.row2 hb, below_step q.below hb, q.is, q.less, q.len⟩
theorem merge_Series.Q.at_ {W2 W : World} {L dn rest : List merge_Series.H} {v6 : Value} {A : Option Addr} {cp : Nat} {out : List S78} (q : merge_Series.Q W2 W L dn rest v6 A cp out) (i : Nat) (hi : i < rest.length) :
    ∃ ad, A = some ad ∧ W.cell? (ad.add (i * 2)) = some (.slice rest[i].A rest[i].x.f0.length rest[i].c) ∧ W.cell? ⟨(ad.add (i * 2)).block, (ad.add (i * 2)).off + 1, none⟩ = some (.slice rest[i].B rest[i].x.f1.length rest[i].d) := by
  obtain ⟨ad, e, h1, h2⟩ := merge_Series.at_H q.row i hi hi
  exact ⟨ad, e, pw_cell_below q.below h1, pw_cell_below q.below h2⟩
/-- The row of the run's samples has turned. -/
theorem merge_Series.Q.lists {W2 W W' : World} {L dn rest l : List merge_Series.H} {v6 v8 : Value} {A : Option Addr} {cp : Nat} {out : List S78} (q : merge_Series.Q W2 W L dn rest v6 A cp out) (h8 : Kd.R merge_Series.kL 60 W W2.heap.size (fun _ => True) v8 l) (hg : W.grownBy W' v8.ownBlock) : merge_Series.Q W2 W' L dn rest v6 A cp out :=
  ⟨q.split, q.cap, q.row, Kd.R_mono (Kd.R_grown (Kd.R_apartR q.row2 h8 (by decide)) hg (fun k hk => hk.2)) (fun _ _ => trivial), pw_below_grown q.below v8.ownBlock q.below.size hg (Kd.R_base h8), q.is, q.less, q.len⟩
/-- The next round: a run is done. -/
theorem merge_Series.Q.next {W2 W : World} {L dn rest tl : List merge_Series.H} {x0 : merge_Series.H} {v6 : Value} {A : Option Addr} {cp n : Nat} {out out' : List S78} (q : merge_Series.Q W2 W L dn rest v6 A cp out) (hp : L.Pairwise merge_Series.le) (h0 : rest = x0 :: tl) (h1 : 1 ≤ n) (hn : n ≤ rest.length)
    (hrun : ∀ y ∈ rest.take n, merge_Series.c y.x.f0 x0.x.f0 = 0) (hend : ∀ h : n < rest.length, merge_Series.c rest[n].x.f0 x0.x.f0 ≠ 0) {W' : World} {v6' : Value} (hb : Below W2.heap.size W2 W') (ho : Kd.R k78 78 W' W2.heap.size (fun _ => True) v6' out')
    (ho' : out' = if (Go.Proofs.Ytjilnpbgclnecac.XMg.mrg merge_Samples.key ((rest.take n).map fun h => h.x.f1).flatten).isEmpty then out else out ++ [⟨x0.x.f0, Go.Proofs.Ytjilnpbgclnecac.XMg.mrg merge_Samples.key ((rest.take n).map fun h => h.x.f1).flatten⟩]) :
    merge_Series.Q W2 W' L (dn ++ rest.take n) (rest.drop n) v6' (if cp = n then A else A.map (·.add (n * 2))) (cp - n) out' := by
  refine ⟨by rw [q.split, List.append_assoc, List.take_append_drop], by rw [List.length_drop]; have := q.cap; omega, ?_, ho, hb, ?_, merge_Series.less_next hp q.split q.less h0 h1 hrun hend, ?_⟩
  · exact Kd.C_drop (c := cp) q.row hn q.cap
  · have hd : ∀ y ∈ dn.map (fun h => merge_Series.pr h.x), merge_Series.c y.1 x0.x.f0 < 0 := by
      intro y hy
      obtain ⟨z, hz, rfl⟩ := List.mem_map.1 hy
      exact q.less z hz x0 (by rw [h0]; exact List.mem_cons_self)
    have hr : ∀ y ∈ (rest.take n).map (fun h => merge_Series.pr h.x), merge_Series.c y.1 x0.x.f0 = 0 := by
      intro y hy
      obtain ⟨z, hz, rfl⟩ := List.mem_map.1 hy
      exact hrun z hz
    have hg := Go.Proofs.Ytjilnpbgclnecac.XSer.Is.group merge_Series.c_ord q.is hd hr
    rw [← List.map_append] at hg
    have hf : ((rest.take n).map fun h => merge_Series.pr h.x).flatMap (·.2) = ((rest.take n).map fun h => h.x.f1).flatten := by
      rw [List.flatMap_map]
      exact List.flatMap_def ..
    rw [hf] at hg
    rw [ho']
    split
    · rename_i he
      rw [if_pos he] at hg
      exact hg
    · rename_i he
      rw [if_neg he] at hg
      have e : (out ++ [(⟨x0.x.f0, Go.Proofs.Ytjilnpbgclnecac.XMg.mrg merge_Samples.key ((rest.take n).map fun h => h.x.f1).flatten⟩ : S78)]).map merge_Series.pr = out.map merge_Series.pr ++ [(x0.x.f0, Go.Proofs.Ytjilnpbgclnecac.XMg.mrg merge_Samples.key ((rest.take n).map fun h => h.x.f1).flatten)] := by rw [List.map_append]; rfl
      rw [e]
      exact hg
  · rw [ho', List.length_append]
    have := q.len
    have hl : (rest.take n).length = n := by rw [List.length_take]; omega
    split
    · omega
    · rw [List.length_append]
      simp
      omega
def merge_Series.tot (l : List merge_Series.H) : Nat := (l.map fun h => h.x.f1.length).sum
theorem merge_Series.tot_perm {l m : List merge_Series.H} (h : l.Perm m) : merge_Series.tot l = merge_Series.tot m := (h.map _).sum_nat
theorem merge_Series.tot_flat : ∀ l : List merge_Series.H, (l.map fun h => h.x.f1).flatten.length = merge_Series.tot l
  | [] => rfl
  | x :: l => by
    rw [List.map_cons, List.flatten_cons, List.length_append, merge_Series.tot_flat l]
    rfl
theorem merge_Series.tot_append (a b : List merge_Series.H) : merge_Series.tot (a ++ b) = merge_Series.tot a + merge_Series.tot b := by
  unfold merge_Series.tot
  rw [List.map_append, List.sum_append]
theorem merge_Series.tot_run {L dn rest : List merge_Series.H} (hs : L = dn ++ rest) (n : Nat) : merge_Series.tot (rest.take n) ≤ merge_Series.tot L := by
  have h := merge_Series.tot_append (rest.take n) (rest.drop n)
  rw [List.take_append_drop] at h
  rw [hs, merge_Series.tot_append]
  omega
structure merge_Series.P1 (w W : World) (l0 : List (List S78)) (i : Nat) (v3 : Value) (hs : List merge_Series.H) : Prop where
  val : hs.map (·.x) = (l0.take i).flatten
  hv : ∀ h ∈ hs, merge_Series.HV w h
  row : merge_Series.kH.R 78 W w.heap.size (fun _ => True) v3 hs
  below : Below w.heap.size w W
theorem merge_Series.P1.len {w W : World} {l0 : List (List S78)} {i : Nat} {v3 : Value} {hs : List merge_Series.H} (h : merge_Series.P1 w W l0 i v3 hs) : hs.length = (l0.take i).flatten.length := by rw [← h.val, List.length_map]
theorem merge_Series.take_le (l0 : List (List S78)) (i : Nat) : (l0.take i).flatten.length ≤ l0.flatten.length := by
  conv => rhs; rw [← List.take_append_drop i l0]
  rw [List.flatten_append, List.length_append]
  omega
set_option maxHeartbeats 8000000 in
set_option maxRecDepth 100000 in
theorem merge_Series.calls (A0 : Option Addr) (c0 : Nat) (l0 : List (List S78)) (r : List S78) (w : World) (hr0 : Kd.C (Kd.slice 78 k78) w A0 l0.length l0) (hc0 : l0.length ≤ c0) (h : merge_Series.f l0 = some r) :
    Calls Try.prog 45 #[.slice A0 l0.length c0] w fun e w' => ∃ v0_ : Value, e = .returned (v0_) ∧ Kd.R k78 78 w' w.heap.size (fun _ => True) v0_ r ∧ Below w.heap.size w w' := by
  unfold merge_Series.f at h
  by_cases hfit : merge_Series.fits l0
  case neg => rw [if_neg hfit] at h; cases h
  rw [if_pos hfit] at h
  injection h with h
  have HR := Aside0.mk h
  have HF := Aside0.mk hfit
  have HC := Aside0.mk hr0
  have hml0 : l0.length ≤ 9223372036854775806 := by have := hfit.1; omega
  clear hr0 hc0 h hfit
  go_enter Try.func45, Try.ntmps45
  go_upto_block 0 with fail
  go_cut [3] (fun v3 wx => ∃ hs : List merge_Series.H, hs.length = l0.flatten.length ∧ Aside0 (merge_Series.P1 w wx l0 l0.length v3 hs))
  case first =>
    go_wp2_with fail
    go_loopg [3, 14] l0.length (fun kx v3 v14 wr => ∃ (i : Nat) (hs : List merge_Series.H), v14 = .int .i64 i ∧ i ≤ l0.length ∧ l0.length - i ≤ kx ∧ Aside0 (merge_Series.P1 w wr l0 i v3 hs))
    case atStart => exact ⟨0, [], rfl, Nat.zero_le _, Nat.le_refl _, ⟨⟨rfl, (fun h hh => nomatch hh), Kd.R_nil _ _ _ _ _, Below.refl _ _⟩⟩⟩
    case round =>
      obtain ⟨i, hs, rfl, hi, hkx, HP⟩ := hrel
      by_cases hlt : i < l0.length
      · have hltz : (i : Int) < (l0.length : Int) := by omega
        have hi0 : (0 : Int) ≤ (i : Int) := by omega
        obtain ⟨ad, A1, c1, hA, hx, hc1, hC1⟩ := at_L8 HC.out (i : Int) (by omega) hltz
        subst hA
        have hrd : rd_L8 l0 (i : Int) = l0[i] := by unfold rd_L8; simp [hlt]
        rw [hrd] at hx hc1 hC1
        obtain ⟨x, hxe⟩ : ∃ x, x = l0[i] := ⟨_, rfl⟩
        rw [← hxe] at hx hc1 hC1
        have hx2 := pw_cell_below HP.out.below hx
        rw [Int.toNat_natCast] at hx2
        obtain ⟨hs2, hval2, hv2, hC2⟩ := merge_Series.lift hC1
        have HT := Aside0.mk (show (l0.take (i + 1)).flatten = (l0.take i).flatten ++ x by rw [List.take_succ_eq_append_getElem hlt, List.flatten_append, ← hxe]; simp)
        have HL := Aside0.mk (show (hs.length + x.length) * 48 ≤ 140737488355328 by
          have h1 := HP.out.len
          have h2 := merge_Series.take_le l0 (i + 1)
          rw [HT.out, List.length_append] at h2
          have := HF.out.2.1
          omega)
        have HV2 := Aside0.mk hv2
        have HVAL := Aside0.mk hval2
        have HC2 := Aside0.mk hC2
        clear hx hc1 hC1 hrd hxe hval2 hv2 hC2
        go_wp2_with (first
          | ((with_reducible refine gate_builtin (b := .append) (xs := #[.tmp 18, .tmp 19]) rfl ?_); at_builtin; refine Kd.R_append_rows merge_Series.kH (w0 := w) w.heap.size rfl (.tmp 18) (.tmp 19) 76 78 (.agg #[(.slice none 0 0), (.slice none 0 0)]) 48 rfl Try.underlying76 merge_Series.info78 rfl (by decide) (by omega) u3 hs hs2 _ _ _ (fun _ => True) (fun _ => False) rfl rfl HP.out.row (Kd.C_below HC2.out HP.out.below) (fun _ _ h => h) (fun _ h => h.elim) (fun _ _ => trivial) HP.out.below HP.out.below.size HL.out ?_; intro v7 w7 ho7 hb7 hg7 _; have HO7 := Aside0.mk ho7; have HB7 := Aside0.mk hb7; clear ho7 hb7 hg7))
        go_roundg (l0.length - (i + 1))
        case measure => omega
        case rel =>
          refine ⟨i + 1, hs ++ hs2, by go_num, hlt, Nat.le_refl _, ⟨⟨?_, ?_, HO7.out, HB7.out⟩⟩⟩
          · rw [HT.out, List.map_append, HP.out.val, HVAL.out]
          · intro h hh
            rcases List.mem_append.1 hh with hh | hh
            · exact HP.out.hv h hh
            · exact HV2.out h hh
      · have hltz : ¬ (i : Int) < (l0.length : Int) := by omega
        go_wp2_with fail
        go_meet
        case rel =>
          obtain rfl : i = l0.length := by omega
          exact ⟨hs, by rw [HP.out.len, List.take_length], HP⟩
  case rest =>
    obtain ⟨hs, hlen, HP⟩ := hcut
    have HLEN := Aside0.mk hlen
    clear hlen
    by_cases hn : hs = []
    · subst hn
      obtain ⟨A3, c3, e3⟩ := Kd.R_slice HP.out.row
      subst e3
      go_wp2_with (go_at_call 104; (with_reducible refine (merge_Series.sort_nil _ _ _ _).mono ?_); rintro e w' ⟨rfl, rfl⟩)
      refine wp_loop_rounds 1 ?_
      rw [rounds_succ]
      go_wp2
      go_ret
      refine ⟨_, rfl, ?_, HP.out.below⟩
      have h0 : l0.flatten = [] := List.eq_nil_of_length_eq_zero HLEN.out.symm
      rw [← HR.out, h0]
      exact Kd.R_nil _ _ _ _ _
    · have hpos : 0 < hs.length := List.length_pos_iff.mpr hn
      obtain ⟨g, cap, e3, hb0, hb1, cells, hcells⟩ := Kd.R_form HP.out.row hpos
      subst e3
      have hval := HP.out.val
      rw [List.take_length] at hval
      have hlb : ∀ h ∈ hs, h.x.f0.length < 1099511627776 := fun h hh => HF.out.2.2.2 h.x (by rw [← hval]; exact List.mem_map_of_mem hh)
      have HVAL := Aside0.mk hval
      have HS := Aside0.mk (merge_Series.sort g cap hs w wc hn (by have := HF.out.2.1; have := HLEN.out; omega) (fun h hh => ⟨HP.out.hv h hh, hlb h hh⟩) HP.out.below (merge_Series.R_own HP.out.row))
      clear hcells hb0 hb1 hpos hn hval hlb
      go_upto_region 8 with (go_at_call 104; (with_reducible refine HS.out.mono ?_); rintro e W2 ⟨rfl, srt, hperm, hpw, hown, hgr⟩)
      obtain ⟨L, hL⟩ : ∃ L, L = srt.map (·.1) := ⟨_, rfl⟩
      rw [← hL] at hown
      have hLp : L.Perm hs := by
        have := hperm.map (·.1)
        rw [List.zipIdx_map_fst] at this
        rw [hL]
        exact this
      have hLl : hs.length = L.length := hLp.length_eq.symm
      have hB2 : Below w.heap.size w W2 := pw_below_grown HP.out.below (some g) HP.out.below.size hgr (fun k hk => by injection hk with hk; subst hk; exact own_base hown _ rfl)
      have HLV := Aside0.mk (show ∀ h ∈ L, merge_Series.HV W2 h ∧ h.x.f0.length < 1099511627776 from fun h hh => ⟨(HP.out.hv h (hLp.mem_iff.1 hh)).below hB2, HF.out.2.2.2 h.x (by rw [← HVAL.out]; exact List.mem_map_of_mem (hLp.mem_iff.1 hh))⟩)
      have HLT := Aside0.mk (show merge_Series.tot L < 1099511627776 by
        rw [merge_Series.tot_perm hLp]
        have := HF.out.2.2.1
        rw [← HVAL.out, List.map_map] at this
        exact this)
      have HLP := Aside0.mk (show L.Pairwise merge_Series.le by
        rw [hL, List.pairwise_map]
        exact hpw.imp (fun {x y} h => h.imp id (fun h => h.1)))
      have HDONE := Aside0.mk (show ∀ out : List S78, Go.Proofs.Ytjilnpbgclnecac.XSer.Is merge_Series.c merge_Samples.key (L.map fun h => merge_Series.pr h.x) (out.map merge_Series.pr) → out = r from fun out h => by
        rw [← HR.out]
        refine merge_Series.done HVAL.out hperm hpw ?_
        rw [hL, List.map_map] at h
        exact h)
      have HLL := Aside0.mk (show L.length < 1099511627776 by have := HF.out.2.1; have := HLEN.out; omega)
      rw [hLl] at hown ⊢
      have hR2 := merge_Series.own_R hown
      have HQ0 := Aside0.mk (show merge_Series.Q W2 W2 L [] L (.slice none 0 0) (some ⟨g, 0, none⟩) cap [] from ⟨rfl, (Kd.R_reads' hR2).2.1, (Kd.R_reads' hR2).2.2, Kd.R_nil _ _ _ _ _, Below.refl _ _, Go.Proofs.Ytjilnpbgclnecac.XSer.Is.nil, (fun x hx => nomatch hx), Nat.le_refl _⟩)
      have HB2 := Aside0.mk hB2
      clear hL hLp hLl hB2 hperm hpw hown hgr hR2 HS HP HVAL HR HF HC hml0 HLEN
      go_wp2
      go_loopg [3, 6] (L.length + 1) (fun kx v3 v6 wr => ∃ (dn rest : List merge_Series.H) (A : Option Addr) (cp : Nat) (out : List S78), v3 = .slice A rest.length cp ∧ rest.length + 1 ≤ kx ∧ Aside0 (merge_Series.Q W2 wr L dn rest v6 A cp out))
      case atStart => exact ⟨[], L, _, _, [], rfl, Nat.le_refl _, HQ0⟩
      case round =>
        clear HQ0
        obtain ⟨dn, rest, A, cp, out, rfl, hkx, HQ⟩ := hrel
        by_cases hrn : rest = []
        · subst hrn
          go_wp2
          go_ret
          refine ⟨_, rfl, ?_, below_then HB2.out HB2.out.size HQ.out.below⟩
          have e : L = dn := by have := HQ.out.split; rwa [List.append_nil] at this
          have h1 := HQ.out.is
          rw [← e] at h1
          rw [← HDONE.out out h1]
          exact Kd.R_lower HQ.out.row2 HB2.out.size
        · obtain ⟨x0, tl, hcons⟩ := List.exists_cons_of_ne_nil hrn
          have hpz : (0 : Int) < (rest.length : Int) := by rw [hcons, List.length_cons]; omega
          have hp1 : 1 ≤ rest.length := by rw [hcons, List.length_cons]; omega
          have hpn : 0 < rest.length := hp1
          have HRL := Aside0.mk (show rest.length < 1099511627776 by have := HLL.out; rw [HQ.out.split, List.length_append] at this; omega)
          have HCO := Aside0.mk hcons
          clear hrn hcons
          go_upto_block 4 with fail
          go_cut [7] (fun v7 wx => ∃ n : Nat, v7 = .int .i64 n ∧ 1 ≤ n ∧ n ≤ rest.length ∧ Aside0 (∀ y ∈ rest.take n, merge_Series.c y.x.f0 x0.x.f0 = 0) ∧ Aside0 (∀ h : n < rest.length, merge_Series.c rest[n].x.f0 x0.x.f0 ≠ 0) ∧ Aside0 (merge_Series.Q W2 wx L dn rest u6 A cp out))
          case first =>
            go_wp2_with fail
            go_loopg [7] rest.length (fun kx v7 wr1 => ∃ n : Nat, v7 = .int .i64 n ∧ 1 ≤ n ∧ n ≤ rest.length ∧ rest.length - n ≤ kx ∧ Aside0 (∀ y ∈ rest.take n, merge_Series.c y.x.f0 x0.x.f0 = 0) ∧ Aside0 (merge_Series.Q W2 wr1 L dn rest u6 A cp out))
            case atStart => exact ⟨1, rfl, Nat.le_refl _, hp1, by omega, ⟨by rw [HCO.out]; intro y hy; obtain rfl := List.mem_singleton.1 hy; exact (merge_Series.c_ord.zero _ _).2 rfl⟩, HQ⟩
            case round =>
              clear HQ
              obtain ⟨n, rfl, hn1, hn2, hkx1, HRUN, HQ1⟩ := hrel
              by_cases hlt : n < rest.length
              · have hltz : (n : Int) < (rest.length : Int) := by omega
                have hltb : decide ((n : Int) < (rest.length : Int)) = true := decide_eq_true hltz
                have hn0 : (0 : Int) ≤ (n : Int) := by omega
                have hnb : n ≤ 9223372036854775806 := by have := HRL.out; omega
                obtain ⟨ad, hA, y0, _⟩ := HQ1.out.at_ n hlt
                subst hA
                obtain ⟨ad2, hA2, z0, _⟩ := HQ1.out.at_ 0 hpn
                injection hA2 with hA2
                subst hA2
                have e0 : rest[0] = x0 := by simp only [HCO.out, List.getElem_cons_zero]
                have hm0 : x0 ∈ L := by rw [HQ1.out.split, HCO.out]; exact List.mem_append_right _ List.mem_cons_self
                have hmn : rest[n] ∈ L := by rw [HQ1.out.split]; exact List.mem_append_right _ (List.getElem_mem hlt)
                have h0v := HLV.out _ hm0
                have hnv := HLV.out _ hmn
                rw [e0, show ad.add (0 * 2) = ad by simp [Addr.add]] at z0
                obtain ⟨xn, hxn⟩ : ∃ xn, xn = rest[n] := ⟨_, rfl⟩
                rw [← hxn] at y0 hnv
                have HXN := Aside0.mk hxn
                have hb1 : Below W2.heap.size W2 wr.drew := below_drew HQ1.out.below
                obtain ⟨q, hq⟩ : ∃ q, q = merge_Series.c xn.x.f0 x0.x.f0 := ⟨_, rfl⟩
                have HCMP := Aside0.mk (merge_Series.cmp xn.A xn.c xn.x.f0 x0.A x0.c x0.x.f0 wr.drew (hnv.1.below hb1).2.1 hnv.1.1 (h0v.1.below hb1).2.1 h0v.1.1 hnv.2 h0v.2)
                rw [← hq] at HCMP
                have HQQ := Aside0.mk hq
                have HQ2 := Aside0.mk (HQ1.out.on (below_drew (Below.refl _ _)))
                clear h0v hnv hm0 hmn e0 hxn hb1 hq HQ1
                obtain ⟨xA, xc, xB, xd, xx⟩ := xn
                obtain ⟨zA, zc, zB, zd, zx⟩ := x0
                dsimp only at y0 z0 HCMP
                by_cases hq0 : q = 0
                · have hqb : (q == 0) = true := beq_iff_eq.mpr hq0
                  go_wp2
                  go_still_tail 14, (by kernel_rfl)
                  change wpList _ _ _ _ _ wr.drew
                  generalize wr.drew = W3 at HCMP HQ2 ⊢
                  go_wp2_with (go_at_call 106; (with_reducible refine HCMP.out.mono ?_); rintro e W4 ⟨rfl, hbd⟩)
                  go_roundg (rest.length - (n + 1))
                  case measure => omega
                  case rel =>
                    refine ⟨n + 1, by go_num, by omega, hlt, Nat.le_refl _, ⟨?_⟩, ⟨HQ2.out.on hbd.b⟩⟩
                    rw [List.take_succ_eq_append_getElem hlt]
                    intro y hy
                    rcases List.mem_append.1 hy with hy | hy
                    · exact HRUN.out y hy
                    · obtain rfl := List.mem_singleton.1 hy
                      rw [← HXN.out]
                      exact HQQ.out.symm.trans hq0
                · have hqb : (q == 0) = false := beq_eq_false_iff_ne.mpr hq0
                  go_wp2
                  go_still_tail 14, (by kernel_rfl)
                  change wpList _ _ _ _ _ wr.drew
                  generalize wr.drew = W3 at HCMP HQ2 ⊢
                  go_wp2_with (go_at_call 106; (with_reducible refine HCMP.out.mono ?_); rintro e W4 ⟨rfl, hbd⟩)
                  go_meet
                  case rel => exact ⟨n, rfl, hn1, hn2, HRUN, ⟨fun h => by rw [← HXN.out]; exact fun e => hq0 (HQQ.out.trans e)⟩, ⟨HQ2.out.on hbd.b⟩⟩
              · have hltz : ¬ (n : Int) < (rest.length : Int) := by omega
                have hltb : decide ((n : Int) < (rest.length : Int)) = false := decide_eq_false hltz
                have HQ2 := Aside0.mk (fun k => HQ1.out.on (pw_below_drewN (Below.refl _ _) k))
                go_wp2
                go_quiet (fail)
                go_wp2_with fail
                go_meet
                case rel => exact ⟨n, rfl, hn1, hn2, HRUN, ⟨fun h => absurd h hlt⟩, ⟨HQ2.out _⟩⟩
          case rest =>
            clear HQ
            obtain ⟨n, rfl, hn1, hn2, HRUN, HEND, HQ1⟩ := hcut
            have hnz : (n : Int) ≤ (rest.length : Int) := by omega
            have hn0 : (0 : Int) ≤ (n : Int) := by omega
            have hnb : n ≤ 9223372036854775806 := by have := HRL.out; omega
            obtain ⟨i78, hi78, _, hsz78, _⟩ := info_parts merge_Series.info78
            have hcutT := cut_to (P := Try.prog) 76 78 .i64 Try.underlying76 hi78 A rest.length cp (n : Int) hn0 hnz HQ1.out.cap
            rw [Int.toNat_natCast] at hcutT
            go_upto_block 6 with fail
            go_cut [8] (fun v8 wx => Aside0 (merge_Series.Q W2 wx L dn rest u6 A cp out) ∧ Aside0 (Kd.R merge_Series.kL 60 wx W2.heap.size (fun _ => True) v8 (rest.take n)))
            case first =>
              go_wp2_with fail
              go_loopg [8, 50] n (fun kx v8 v50 wr => ∃ i : Nat, v50 = .int .i64 i ∧ i ≤ n ∧ n - i ≤ kx ∧ Aside0 (merge_Series.Q W2 wr L dn rest u6 A cp out) ∧ Aside0 (Kd.R merge_Series.kL 60 wr W2.heap.size (fun _ => True) v8 (rest.take i)))
              case atStart => exact ⟨0, rfl, Nat.zero_le _, Nat.le_refl _, HQ1, ⟨Kd.R_nil _ _ _ _ _⟩⟩
              case round =>
                clear HQ1
                obtain ⟨i, rfl, hi1, hkx1, HQ1, HL8⟩ := hrel
                by_cases hlt : i < n
                · have hltz : (i : Int) < (n : Int) := by omega
                  have hi0 : (0 : Int) ≤ (i : Int) := by omega
                  have hlr : i < rest.length := by omega
                  obtain ⟨ad, hA, y0, y1⟩ := HQ1.out.at_ i hlr
                  subst hA
                  obtain ⟨xn, hxn⟩ : ∃ xn, xn = rest[i] := ⟨_, rfl⟩
                  rw [← hxn] at y0 y1
                  have HXN := Aside0.mk hxn
                  clear hxn
                  obtain ⟨xA, xc, xB, xd, xx⟩ := xn
                  dsimp only at y0 y1
                  go_upto_region 17 with fail
                  refine cwp_world ?_
                  intro W3 hW3
                  have hb3 : Below wr.heap.size wr W3 := by rw [hW3]; exact below_alloc (Below.refl _ _) _
                  have HBK := Aside0.mk (show W3.heap[wr.heap.size]? = some (.cells #[.slice xA xx.f0.length xc, .slice xB xx.f1.length xd] 78 (0, 0)) by rw [hW3]; exact blk_new _ _)
                  have HQ3 := Aside0.mk (HQ1.out.on hb3)
                  have HL3 := Aside0.mk (Kd.R_below HL8.out hb3)
                  obtain ⟨g7, hg7⟩ : ∃ g7, g7 = wr.heap.size := ⟨_, rfl⟩
                  rw [← hg7] at HBK ⊢
                  clear hW3 hb3 hg7 HQ1 HL8 y0 y1
                  have b1 : W3.cell? ⟨g7, 1, none⟩ = some (.slice xB xx.f1.length xd) := (blk_cell HBK.out 1).trans rfl
                  have HTL := Aside0.mk (show ((rest.take i).length + 1) * 24 ≤ 140737488355328 by rw [List.length_take]; have := HRL.out; omega)
                  go_wp2_with (first
                    | ((with_reducible refine gate_builtin (b := .append) (xs := #[.tmp 54, .tmp 57]) rfl ?_); at_builtin; refine Kd.R_append merge_Series.kL (w0 := W2) W2.heap.size rfl (.tmp 54) (.tmp 57) 65 60 (.slice none 0 0) 24 rfl Try.underlying65 info60 rfl (by decide) (by omega) u8 (rest.take i) ⟨xA, xc, xB, xd, xx⟩ [.slice xB xx.f1.length xd] (fun _ => True) (fun _ => False) rfl (by first | (go_simp; done) | (go_simp; rfl)) rfl (fun _ hk => hk.elim) (fun _ _ => trivial) HL3.out HQ3.out.below HQ3.out.below.size HTL.out ?_; intro v7 w7 ho7 hb7 hgr7 _; have HO7 := Aside0.mk ho7; have HG7 := Aside0.mk hgr7; clear ho7 hb7 hgr7))
                  go_roundg (n - (i + 1))
                  case measure => omega
                  case rel => exact ⟨i + 1, by go_num, hlt, Nat.le_refl _, ⟨HQ3.out.lists HL3.out HG7.out⟩, ⟨by rw [List.take_succ_eq_append_getElem hlr, ← HXN.out]; exact HO7.out⟩⟩
                · have hltz : ¬ (i : Int) < (n : Int) := by omega
                  obtain rfl : i = n := by omega
                  go_wp2_with fail
                  go_meet
                  case rel => exact ⟨HQ1, HL8⟩
            case rest =>
              clear HQ1 hcutT
              obtain ⟨HQ2, HL8⟩ := hcut
              obtain ⟨A8, c8, e8⟩ := Kd.R_slice HL8.out
              subst e8
              obtain ⟨_, hc8, hC8⟩ := Kd.R_reads' HL8.out
              obtain ⟨ls, hls⟩ : ∃ ls, ls = (rest.take n).map fun h => h.x.f1 := ⟨_, rfl⟩
              have hll : (rest.take n).length = ls.length := by rw [hls, List.length_map]
              have hvr : ∀ h ∈ rest.take n, merge_Series.HV wc h := fun h hh => (HLV.out h (by rw [HQ2.out.split]; exact List.mem_append_right _ (List.mem_of_mem_take hh))).1.below HQ2.out.below
              have hCL := merge_Series.lists_C hC8 hvr
              rw [← hls, hll] at hCL
              have hfl : ls.flatten.length < 1099511627776 := by
                rw [hls, merge_Series.tot_flat]
                exact Nat.lt_of_le_of_lt (merge_Series.tot_run HQ2.out.split n) HLT.out
              have hlsl : ls.length < 1099511627776 := by rw [← hll, List.length_take]; have := HRL.out; omega
              obtain ⟨s, hs⟩ : ∃ s, s = Go.Proofs.Ytjilnpbgclnecac.XMg.mrg merge_Samples.key ls.flatten := ⟨_, rfl⟩
              have HSAM := Aside0.mk (merge_Samples.calls A8 c8 ls s wc hCL (by rw [← hll]; exact hc8) (by unfold merge_Samples.f; rw [if_pos ⟨hlsl, hfl⟩, hs]))
              have HSL := Aside0.mk (show s.length < 1099511627776 by rw [hs]; exact Nat.lt_of_le_of_lt (Go.Proofs.Ytjilnpbgclnecac.XMg.mrg_len _) hfl)
              have HS := Aside0.mk (show s = Go.Proofs.Ytjilnpbgclnecac.XMg.mrg merge_Samples.key ((rest.take n).map fun h => h.x.f1).flatten by rw [hs, hls])
              rw [hll] at HL8 ⊢
              clear hC8 hc8 hvr hCL hfl hlsl hs hls hll HL8
              go_upto_region 20 with (go_at_call 38; (with_reducible refine HSAM.out.mono ?_); rintro e w5 ⟨v11, rfl, ho11, hb11⟩; have HO11 := Aside0.mk ho11; have HB11 := Aside0.mk hb11; clear ho11 hb11)
              obtain ⟨A11, c11, e11⟩ := Kd.R_slice HO11.out
              subst e11
              have HQ5 := Aside0.mk (HQ2.out.on HB11.out)
              have hcutF := cut_from (P := Try.prog) 76 78 .i64 Try.underlying76 hi78 2 hsz78 A rest.length cp (n : Int) hn0 hnz
              rw [Int.toNat_natCast] at hcutF
              obtain ⟨A7, HA7⟩ : ∃ A7, Aside0 (A7 = if cp = n then A else A.map (·.add (n * 2))) := ⟨_, ⟨rfl⟩⟩
              rw [← HA7.out] at hcutF
              obtain ⟨m7, hm7⟩ : ∃ m7, m7 = rest.length - n := ⟨_, rfl⟩
              obtain ⟨c7, hc7⟩ : ∃ c7, c7 = cp - n := ⟨_, rfl⟩
              rw [← hm7, ← hc7] at hcutF
              have HM7 := Aside0.mk hm7
              have HC7 := Aside0.mk hc7
              have HN12 := Aside0.mk (And.intro hn1 hn2)
              clear hm7 hc7 hi78 hsz78 HSAM
              by_cases hsn : s = []
              · subst hsn
                clear HO11 HB11 HQ2
                go_wp2_with fail
                go_roundg (m7 + 1)
                case measure => have := HN12.out; have := HM7.out; omega
                case rel => exact ⟨dn ++ rest.take n, rest.drop n, A7, c7, out, by rw [HM7.out, List.length_drop], by rw [HM7.out, List.length_drop]; exact Nat.le_refl _, ⟨by rw [HA7.out, HC7.out]; exact HQ5.out.next HLP.out HCO.out HN12.out.1 HN12.out.2 HRUN.out HEND.out HQ5.out.below HQ5.out.row2 (by rw [← HS.out]; rfl)⟩⟩
              · have hsp : (0 : Int) < (s.length : Int) := by have := List.length_pos_iff.mpr hsn; omega
                have HSN := Aside0.mk hsn
                clear hsn
                obtain ⟨ad, hA, z0, _⟩ := HQ5.out.at_ 0 hpn
                subst hA
                have e0 : rest[0] = x0 := by simp only [HCO.out, List.getElem_cons_zero]
                have hm0 : x0 ∈ L := by rw [HQ5.out.split, HCO.out]; exact List.mem_append_right _ List.mem_cons_self
                have h0v := HLV.out _ hm0
                rw [e0, show ad.add (0 * 2) = ad by simp [Addr.add]] at z0
                have hcl : ∃ ra, ra = x0.x.f0 := ⟨_, rfl⟩
                have HLAB := Aside0.mk (api_Label.calls x0.A x0.c x0.x.f0 x0.x.f0 w5 (h0v.1.below HQ5.out.below).2.1 h0v.1.1 (by unfold api_Label.f; rw [if_pos (by have := h0v.2; omega)]))
                have HOU := Aside0.mk (show (out.length + 1) * 48 ≤ 140737488355328 by have h1 := HQ5.out.len; have h2 := HLL.out; rw [HQ5.out.split, List.length_append] at h2; omega)
                obtain ⟨in2, hown2⟩ := Kd.R_own HQ2.out.row2
                obtain ⟨in5, hown5⟩ := Kd.R_own HQ5.out.row2
                have HN11 := Aside0.mk (Kd.R_new HO11.out hown2)
                have HOW5 := Aside0.mk hown5
                have HSZ := Aside0.mk (And.intro HQ2.out.below.size HQ5.out.below.size)
                clear hown2 hown5 hm0 h0v e0 hcl HO11 HB11 HQ2
                obtain ⟨zA, zc, zB, zd, zx⟩ := x0
                dsimp only at z0 HLAB
                go_upto_region 22 with (first
                  | (go_at_call 87; (with_reducible refine HLAB.out.mono ?_); rintro e w6 ⟨v70, rfl, ho70, hb70⟩; have HN70 := Aside0.mk (Kd.R_new ho70 HOW5.out); have HB70 := Aside0.mk hb70; obtain ⟨A70, c70, e70⟩ := Kd.R_slice ho70; subst e70; clear ho70 hb70; have HQ6 := Aside0.mk (HQ5.out.on HB70.out))
                  | ((with_reducible refine gate_builtin (b := .append) (xs := #[.tmp 65, .tmp 73]) rfl ?_); at_builtin; refine Kd.R_append k78 (w0 := W2) W2.heap.size rfl (.tmp 65) (.tmp 73) 76 78 (.agg #[(.slice none 0 0), (.slice none 0 0)]) 48 rfl Try.underlying76 merge_Series.info78 rfl (by decide) (by omega) u6 out ⟨zx.f0, s⟩ [.slice A70 zx.f0.length c70, .slice A11 s.length c11] (fun _ => True) (fun k => some k ≠ u6.ownBlock) rfl (by first | (go_simp; done) | (go_simp; rfl)) (k78_mkM _ _ _ ⟨zx.f0, s⟩ (Kd.R_mono (Kd.R_lower HN70.out HSZ.out.2) (fun _ hk => hk.2)) (Kd.R_mono (Kd.R_below (Kd.R_lower HN11.out HSZ.out.1) HB70.out) (fun _ hk => hk.2))) (fun _ hk => ⟨trivial, hk⟩) (fun _ _ => trivial) HQ6.out.row2 HQ6.out.below HQ6.out.below.size HOU.out ?_; intro v7 w7 ho7 hb7 hgr7 _; have HO7 := Aside0.mk ho7; have HB7 := Aside0.mk hb7; clear ho7 hb7 hgr7))
                go_wp2_with fail
                go_roundg (m7 + 1)
                case measure => have := HN12.out; have := HM7.out; omega
                case rel => exact ⟨dn ++ rest.take n, rest.drop n, A7, c7, out ++ [⟨zx.f0, s⟩], by rw [HM7.out, List.length_drop], by rw [HM7.out, List.length_drop]; exact Nat.le_refl _, ⟨by rw [HA7.out, HC7.out]; exact HQ5.out.next HLP.out HCO.out HN12.out.1 HN12.out.2 HRUN.out HEND.out HB7.out HO7.out (by rw [← HS.out, if_neg (by have := HSN.out; simpa using this)])⟩⟩
end


end Go.Proofs.Ytjilnpbgclnecac.PMergeSeries
