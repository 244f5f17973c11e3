/- Written by a program of this session out of the translation: for Go functions Lean functions of the same answers, and the proof that the calls come to these answers. -/
import Derived.StillTailTactics
import Derived.Test.YtjilnpbgclnecacXMerge
import Derived.Test.YtjilnpbgclnecacXHand
import Derived.Test.YtjilnpbgclnecacPMergeRangex0
import Derived.Test.YtjilnpbgclnecacPMergeRangex1
import Derived.Test.YtjilnpbgclnecacPMergeRangex3
import Derived.Test.YtjilnpbgclnecacPMergeRangex4
import Derived.Test.YtjilnpbgclnecacPMergeRangex5
namespace Go.Proofs.Ytjilnpbgclnecac.PMergeRange
open Go.RowKit Go.Proofs.YtjilnpbgclnecacW.PrintWords Go.Proofs.YtjilnpbgclnecacW.PrintLast Go.Proofs.YtjilnpbgclnecacW.PrintMore Go.Proofs.Ytjilnpbgclnecac.XB
attribute [local go_sem] sg_u8 sg_u16 sg_u32 sg_u64 mx_u8 mx_u16 mx_u32 mx_u64
attribute [local go_sem] max2_int min2_int max_two min_two max_three min_three max_four min_four   -- for this text's walks alone
set_option linter.unusedVariables false
set_option linter.unusedSimpArgs false

/-! ### lysimeterref16_Merge: function 40 -/
mutual
def lysimeterref16_Merge.l0 : Nat → List (List (S54)) → List (S54) → Int → Option ((List (S54)))
 | 0, _, _, _ => none
 | k + 1, x0, x3, x4 => if x4 < (x0.length : Int) then (lysimeterref16_Merge.l1 k x0 x3 x4 0) else (some x3)
def lysimeterref16_Merge.l1 : Nat → List (List (S54)) → List (S54) → Int → Int → Option ((List (S54)))
 | 0, _, _, _, _ => none
 | k + 1, x0, x3, x4, x5 => if 0 ≤ x4 then (if x4 < (x0.length : Int) then (if x5 < ((rd_L2 x0 x4).length : Int) then (if 0 ≤ x5 then ((lysimeterref11_PutSample.f k x3 ((rd_T54 (rd_L2 x0 x4) x5).f0) ((rd_T54 (rd_L2 x0 x4) x5).f1)).bind fun t157 => (lysimeterref16_Merge.l1 k x0 t157 x4 (wrap64 (x5 + 1)))) else (none)) else (lysimeterref16_Merge.l0 k x0 x3 (wrap64 (x4 + 1)))) else (none)) else (none)
end
def lysimeterref16_Merge.f (k : Nat) (l0 : List (List (S54))) : Option ((List (S54))) := lysimeterref16_Merge.l0 k l0 ([] : List (S54)) 0
theorem lysimeterref16_Merge.mono_l : ∀ k, (∀ y0 y1 y2, LeO (lysimeterref16_Merge.l0 k y0 y1 y2) (lysimeterref16_Merge.l0 (k + 1) y0 y1 y2)) ∧ (∀ y0 y1 y2 y3, LeO (lysimeterref16_Merge.l1 k y0 y1 y2 y3) (lysimeterref16_Merge.l1 (k + 1) y0 y1 y2 y3))
 | 0 => ⟨fun _ _ _ r h => by simp [lysimeterref16_Merge.l0] at h, fun _ _ _ _ r h => by simp [lysimeterref16_Merge.l1] at h⟩
 | k + 1 => by
  obtain ⟨ih0, ih1⟩ := lysimeterref16_Merge.mono_l k
  refine ⟨?_, ?_⟩
  ·intro y0 y1 y2
   unfold lysimeterref16_Merge.l0
   repeat' first
   | (with_reducible exact ih0 _ _ _)
   | (with_reducible exact ih1 _ _ _ _)
   | (with_reducible exact lysimeterref11_PutSample.mono _ _ _ _)
   | (with_reducible exact LeO.refl _)
   | (with_reducible exact LeO.none _)
   | (with_reducible refine LeO.ite ?_ ?_)
   | (with_reducible refine LeO.bind ?_ (fun _ => ?_))
   | exact ih0 _ _ _
   | exact ih1 _ _ _ _
   | exact lysimeterref11_PutSample.mono _ _ _ _
   | exact LeO.none _
   | refine LeO.ite ?_ ?_
   | refine LeO.bind ?_ (fun _ => ?_)
  ·intro y0 y1 y2 y3
   unfold lysimeterref16_Merge.l1
   repeat' first
   | (with_reducible exact ih0 _ _ _)
   | (with_reducible exact ih1 _ _ _ _)
   | (with_reducible exact lysimeterref11_PutSample.mono _ _ _ _)
   | (with_reducible exact LeO.refl _)
   | (with_reducible exact LeO.none _)
   | (with_reducible refine LeO.ite ?_ ?_)
   | (with_reducible refine LeO.bind ?_ (fun _ => ?_))
   | exact ih0 _ _ _
   | exact ih1 _ _ _ _
   | exact lysimeterref11_PutSample.mono _ _ _ _
   | exact LeO.none _
   | refine LeO.ite ?_ ?_
   | refine LeO.bind ?_ (fun _ => ?_)
theorem lysimeterref16_Merge.mono : ∀ a0 k, LeO (lysimeterref16_Merge.f k a0) (lysimeterref16_Merge.f (k + 1) a0) := by
 intro a0 k
 obtain ⟨ih0, ih1⟩ := lysimeterref16_Merge.mono_l k
 unfold lysimeterref16_Merge.f
 repeat' first
   | (with_reducible exact ih0 _ _ _)
   | (with_reducible exact ih1 _ _ _ _)
   | (with_reducible exact lysimeterref11_PutSample.mono _ _ _ _)
   | (with_reducible exact LeO.refl _)
   | (with_reducible exact LeO.none _)
   | (with_reducible refine LeO.ite ?_ ?_)
   | (with_reducible refine LeO.bind ?_ (fun _ => ?_))
   | exact ih0 _ _ _
   | exact ih1 _ _ _ _
   | exact lysimeterref11_PutSample.mono _ _ _ _
   | exact LeO.none _
   | refine LeO.ite ?_ ?_
   | refine LeO.bind ?_ (fun _ => ?_)
set_option maxHeartbeats 8000000 in
set_option maxRecDepth 100000 in
theorem lysimeterref16_Merge.calls (k : Nat) (A0 : Option Addr) (c0 : Nat) (l0 : List (List (S54))) (r : List (S54)) (w : World) (hr0 : Kd.C (Kd.slice 54 k54) w A0 l0.length l0) (hc0 : l0.length ≤ c0) (h : lysimeterref16_Merge.f k l0 = some r) :
  Calls Try.prog 40 #[.slice A0 l0.length c0] w fun e w' => ∃ v0_ : Value, e = .returned (v0_) ∧ Kd.R k54 54 w' w.heap.size (fun _ => True) v0_ r ∧ Below w.heap.size w w' := by
 have hu54 := Try.underlying54
 have HR0 := Aside0.mk hr0
 have HC0 := Aside0.mk hc0
 clear hr0 hc0
 have HB := Aside0.mk (Below.refl w.heap.size w)
 have H : (lysimeterref16_Merge.l0 k l0 ([] : List (S54)) 0) = some r := h
 clear h
 have H' := Aside0.mk H
 clear H
 go_enter Try.func40, Try.ntmps40
 go_wp2
 go_loopg [3, 4] k (fun kq v3 v4 w' => ∃ (x3_1 : List (S54)) (x4_1 : Int), v4 = .int .i64 x4_1 ∧ Aside0 (lysimeterref16_Merge.l0 kq l0 x3_1 x4_1 = some r) ∧ Aside0 (kq ≤ k) ∧ Aside0 (Kd.R k54 54 w' w.heap.size (fun _ => True) v3 x3_1) ∧ Aside0 (Below w.heap.size w w'))
 case atStart => exact ⟨(([] : List (S54))), (0), (by first | rfl | (simp; done) | (simp [*]; done)), H', ⟨Nat.le_refl _⟩, ⟨by first | exact Kd.R_nil _ _ _ _ _ | exact Kd.N_nil _ _ _ _ _ | exact Kd.V_nil _ _ _ _ _ | exact Kd.Q_nil _ _ _ _ _ | exact Kd.S_nil _ _ _ _ _⟩, ⟨by repeat (first | (with_reducible first | exact HB.out | apply below_alloc | apply pw_below_drewN | apply below_drew1) | exact HB.out)⟩⟩
 case round =>
  clear H'
  obtain ⟨x3_1, x4_1, rfl, HA, HK1, HO_3, HB⟩ := hrel
  cases gk with
  | zero => exact absurd HA.out (by simp [lysimeterref16_Merge.l0])
  | succ k1 =>
   have H := HA.out
   clear HA
   simp only [lysimeterref16_Merge.l0] at H
   by_cases c2 : x4_1 < (l0.length : Int)
   ·rw [if_pos c2] at H
    have c2b0 : decide (x4_1 < (l0.length : Int)) = true := decide_eq_true c2
    clear c2
    have H' := Aside0.mk H
    clear H
    go_wp2
    go_loopg [3, 5] k1 (fun kq v3 v5 w' => ∃ (x3_2 : List (S54)) (x5_2 : Int), v5 = .int .i64 x5_2 ∧ Aside0 (lysimeterref16_Merge.l1 kq l0 x3_2 x4_1 x5_2 = some r) ∧ Aside0 (kq ≤ k1) ∧ Aside0 (Kd.R k54 54 w' w.heap.size (fun _ => True) v3 x3_2) ∧ Aside0 (Below w.heap.size w w'))
    case atStart => exact ⟨(x3_1), (0), (by first | rfl | (simp; done) | (simp [*]; done)), H', ⟨Nat.le_refl _⟩, ⟨by (with_reducible repeat (first | apply Kd.R_alloc | apply Kd.R_drewN | apply Kd.R_drew)); exact HO_3.out⟩, ⟨by repeat (first | (with_reducible first | exact HB.out | apply below_alloc | apply pw_below_drewN | apply below_drew1) | exact HB.out)⟩⟩
    case round =>
     clear H'
     (try clear c2); (try clear c2b0); (try clear p2)
     obtain ⟨x3_2, x5_2, rfl, HA, HK2, HO_3, HB⟩ := hrel
     cases gk with
     | zero => exact absurd HA.out (by simp [lysimeterref16_Merge.l1])
     | succ k2 =>
      have H := HA.out
      clear HA
      simp only [lysimeterref16_Merge.l1] at H
      by_cases c3 : 0 ≤ x4_1
      ·rw [if_pos c3] at H
       have c3b0 : decide (0 ≤ x4_1) = true := decide_eq_true c3
       clear c3
       by_cases c4 : x4_1 < (l0.length : Int)
       ·rw [if_pos c4] at H
        have c4b0 : decide (x4_1 < (l0.length : Int)) = true := decide_eq_true c4
        clear c4
        by_cases c5 : x5_2 < ((rd_L2 l0 x4_1).length : Int)
        ·rw [if_pos c5] at H
         have c5b0 : decide (x5_2 < ((rd_L2 l0 x4_1).length : Int)) = true := decide_eq_true c5
         clear c5
         by_cases c6 : 0 ≤ x5_2
         ·rw [if_pos c6] at H
          have c6b0 : decide (0 ≤ x5_2) = true := decide_eq_true c6
          clear c6
          replace H := Option.bind_eq_some_iff.mp H
          obtain ⟨t157, A70, H⟩ := H
          replace H : (lysimeterref16_Merge.l1 k2 l0 t157 x4_1 (wrap64 (x5_2 + 1))) = some r := H
          have A7 := Aside0.mk A70
          clear A70
          have H' := Aside0.mk H
          clear H
          have p154 : 0 ≤ (x4_1 : Int) := of_decide_eq_true (by first | (with_reducible assumption) | assumption)
          have q154 : x4_1 < (l0.length : Int) := of_decide_eq_true (by first | (with_reducible assumption) | assumption)
          obtain ⟨ad154, A154_0, c154_0, e154, hx154_0, hl154_0, hi154_0⟩ := at_L2 HR0.out x4_1 p154 q154
          cases e154
          replace hx154_0 := (HB.out.cell (World.block_lt_of_cell? w _ hx154_0)).trans hx154_0
          have HR154_0 := Aside0.mk hi154_0
          have HC154_0 := Aside0.mk hl154_0
          clear hi154_0 hl154_0
          replace p154 := eq_true p154
          replace q154 := eq_true q154
          have p155 : 0 ≤ (x4_1 : Int) := of_decide_eq_true (by first | (with_reducible assumption) | assumption)
          have q155 : x4_1 < (l0.length : Int) := of_decide_eq_true (by first | (with_reducible assumption) | assumption)
          obtain ⟨ad155, A155_0, c155_0, e155, hx155_0, hl155_0, hi155_0⟩ := at_L2 HR0.out x4_1 p155 q155
          obtain rfl : ad154 = ad155 := (by injection e155)
          replace hx155_0 := (HB.out.cell (World.block_lt_of_cell? w _ hx155_0)).trans hx155_0
          have HR155_0 := Aside0.mk hi155_0
          have HC155_0 := Aside0.mk hl155_0
          clear hi155_0 hl155_0
          replace p155 := eq_true p155
          replace q155 := eq_true q155
          have ea_ := Option.some.inj (hx154_0.symm.trans hx155_0)
          injection ea_ with ea_ en_ ec_
          subst ea_
          subst ec_
          clear en_
          have p156 : 0 ≤ (x5_2 : Int) := of_decide_eq_true (by first | (with_reducible assumption) | assumption)
          have q156 : x5_2 < ((rd_L2 l0 x4_1).length : Int) := of_decide_eq_true (by first | (with_reducible assumption) | assumption)
          obtain ⟨ad156, e156, hx156_0, hx156_1⟩ := at_T54 HR155_0.out x5_2 p156 q156
          cases e156
          replace hx156_0 := (HB.out.cell (World.block_lt_of_cell? w _ hx156_0)).trans hx156_0
          replace hx156_1 := (HB.out.cell (World.block_lt_of_cell? w _ hx156_1)).trans hx156_1
          replace p156 := eq_true p156
          replace q156 := eq_true q156
          obtain ⟨Ao8, co8, eo8⟩ := Kd.R_slice HO_3.out
          subst eo8
          go_wp2_with (first | ((with_reducible refine gate_callee (f := 103) rfl ?_); refine goesL_ (some 29) rfl rfl Try.func103 (by kernel_rfl) rfl #[.slice Ao8 x3_2.length co8, .agg #[.int .i64 ((rd_T54 (rd_L2 l0 x4_1) x5_2).f0), .int .i64 ((rd_T54 (rd_L2 l0 x4_1) x5_2).f1)]] rfl (by (try simp only [List.map_toArray, List.map_cons, List.map_nil]); first | done | rfl | (simp only [List.length_drop, List.length_take]; rfl)) ?_; (with_reducible refine (lysimeterref11_PutSample.calls k2 _ _ x3_2 ((rd_T54 (rd_L2 l0 x4_1) x5_2).f0) ((rd_T54 (rd_L2 l0 x4_1) x5_2).f1) t157 _ ?side1 ?side2 A7.out).mono ?_); (case side1 => repeat (first | exact (Kd.R_reads' HO_3.out).2.2 | (with_reducible refine Kd.C_alloc ?_ _) | (with_reducible refine Kd.C_drewN ?_ _) | (with_reducible refine Kd.C_drew ?_))); (case side2 => exact (Kd.R_reads' HO_3.out).2.1); rintro e w9 ⟨v158, rfl, ho0, hb⟩; refine ⟨_, rfl, ?_⟩; have n0_ := Aside0.mk (Kd.R_elder' (by (with_reducible repeat (first | apply Kd.R_alloc | apply Kd.R_drewN | apply Kd.R_drew)); exact HO_3.out) (Kd.R_base ho0) hb); have n1_ := Aside0.mk (Kd.R_lower (Kd.R_new' ho0 (Kd.R_lt (by (with_reducible repeat (first | apply Kd.R_alloc | apply Kd.R_drewN | apply Kd.R_drew)); exact HO_3.out))) (below_size (by repeat (first | (with_reducible first | exact HB.out | apply below_alloc | apply pw_below_drewN | apply below_drew1) | exact HB.out)))); have n2_ := Aside0.mk (below_step (by repeat (first | (with_reducible first | exact HB.out | apply below_alloc | apply pw_below_drewN | apply below_drew1) | exact HB.out)) hb); clear HO_3; clear HB; have HO_3 := n0_; have HO159 := n1_; have HB := n2_; clear n0_ n1_ n2_; (try clear hb); (try clear hb2); (try clear hk); (try clear hi); (try clear ho0)))
          go_roundg k2
          case measure => have := HK1.out; have := HK2.out; omega
          case rel => exact ⟨(t157), (wrap64 (x5_2 + 1)), (by first | rfl | (simp; done) | (simp [*]; done)), H', ⟨by have := HK1.out; have := HK2.out; omega⟩, ⟨by (with_reducible repeat (first | apply Kd.R_alloc | apply Kd.R_drewN | apply Kd.R_drew)); exact Kd.R_mono HO159.out (fun _ hk => trivial)⟩, ⟨by repeat (first | (with_reducible first | exact HB.out | apply below_alloc | apply pw_below_drewN | apply below_drew1) | exact HB.out)⟩⟩
         ·rw [if_neg c6] at H
          exact absurd H (by simp)
        ·rw [if_neg c5] at H
         have c5b0 : decide (x5_2 < ((rd_L2 l0 x4_1).length : Int)) = false := decide_eq_false c5
         clear c5
         have H' := Aside0.mk H
         clear H
         have p154 : 0 ≤ (x4_1 : Int) := of_decide_eq_true (by first | (with_reducible assumption) | assumption)
         have q154 : x4_1 < (l0.length : Int) := of_decide_eq_true (by first | (with_reducible assumption) | assumption)
         obtain ⟨ad154, A154_0, c154_0, e154, hx154_0, hl154_0, hi154_0⟩ := at_L2 HR0.out x4_1 p154 q154
         cases e154
         replace hx154_0 := (HB.out.cell (World.block_lt_of_cell? w _ hx154_0)).trans hx154_0
         have HR154_0 := Aside0.mk hi154_0
         have HC154_0 := Aside0.mk hl154_0
         clear hi154_0 hl154_0
         replace p154 := eq_true p154
         replace q154 := eq_true q154
         go_wp2
         go_roundg k2
         case measure => have := HK1.out; have := HK2.out; omega
         case rel => exact ⟨(x3_2), (wrap64 (x4_1 + 1)), (by first | rfl | (simp; done) | (simp [*]; done)), H', ⟨by have := HK1.out; have := HK2.out; omega⟩, ⟨by (with_reducible repeat (first | apply Kd.R_alloc | apply Kd.R_drewN | apply Kd.R_drew)); exact HO_3.out⟩, ⟨by repeat (first | (with_reducible first | exact HB.out | apply below_alloc | apply pw_below_drewN | apply below_drew1) | exact HB.out)⟩⟩
       ·rw [if_neg c4] at H
        exact absurd H (by simp)
      ·rw [if_neg c3] at H
       exact absurd H (by simp)
   ·rw [if_neg c2] at H
    have c2b0 : decide (x4_1 < (l0.length : Int)) = false := decide_eq_false c2
    clear c2
    obtain rfl := Option.some.inj H
    go_wp2
    go_ret
    exact ⟨_, by first | rfl | (simp [errW_none, errW_some] <;> rfl) | (simp [*, errW_none, errW_some] <;> rfl), by (with_reducible repeat (first | apply Kd.R_alloc | apply Kd.R_drewN | apply Kd.R_drew)); exact HO_3.out, by repeat (first | (with_reducible first | exact HB.out | apply below_alloc | apply pw_below_drewN | apply below_drew1) | exact HB.out)⟩

/-! ### merge_Range: function 41 -/
def merge_Range.l0 : Nat → Int → Int → List (S54) → List (S54) → Int → Int → Option ((List (S54)))
 | 0, _, _, _, _, _, _ => none
 | k + 1, x1, x2, x7, x10, x11, x12 => if x12 < x11 then (if 0 ≤ x12 then (if x12 < (x10.length : Int) then (if ((rd_T54 x10 x12).f0) ≥ x1 then (if ((rd_T54 x10 x12).f0) < x2 then (if x7.length < 8796093022208 then (merge_Range.l0 k x1 x2 (x7 ++ [(⟨(rd_T54 x10 x12).f0, (rd_T54 x10 x12).f1⟩ : S54)]) x10 x11 (wrap64 (x12 + 1))) else (none)) else (merge_Range.l0 k x1 x2 x7 x10 x11 (wrap64 (x12 + 1)))) else (merge_Range.l0 k x1 x2 x7 x10 x11 (wrap64 (x12 + 1)))) else (none)) else (none)) else (some x7)
def merge_Range.f (k : Nat) (l0 : List (S54)) (a1 : Int) (a2 : Int) : Option ((List (S54))) := merge_Range.l0 k a1 a2 ([] : List (S54)) l0 (l0.length : Int) 0
theorem merge_Range.mono_l : ∀ k, (∀ y0 y1 y2 y3 y4 y5, LeO (merge_Range.l0 k y0 y1 y2 y3 y4 y5) (merge_Range.l0 (k + 1) y0 y1 y2 y3 y4 y5))
 | 0 => fun _ _ _ _ _ _ r h => by simp [merge_Range.l0] at h
 | k + 1 => by
  have ih0 := merge_Range.mono_l k
  ·intro y0 y1 y2 y3 y4 y5
   unfold merge_Range.l0
   repeat' first
   | (with_reducible exact ih0 _ _ _ _ _ _)
   | (with_reducible exact LeO.refl _)
   | (with_reducible exact LeO.none _)
   | (with_reducible refine LeO.ite ?_ ?_)
   | (with_reducible refine LeO.bind ?_ (fun _ => ?_))
   | exact ih0 _ _ _ _ _ _
   | exact LeO.none _
   | refine LeO.ite ?_ ?_
   | refine LeO.bind ?_ (fun _ => ?_)
theorem merge_Range.mono : ∀ a0 a1 a2 k, LeO (merge_Range.f k a0 a1 a2) (merge_Range.f (k + 1) a0 a1 a2) := by
 intro a0 a1 a2 k
 have ih0 := merge_Range.mono_l k
 unfold merge_Range.f
 repeat' first
   | (with_reducible exact ih0 _ _ _ _ _ _)
   | (with_reducible exact LeO.refl _)
   | (with_reducible exact LeO.none _)
   | (with_reducible refine LeO.ite ?_ ?_)
   | (with_reducible refine LeO.bind ?_ (fun _ => ?_))
   | exact ih0 _ _ _ _ _ _
   | exact LeO.none _
   | refine LeO.ite ?_ ?_
   | refine LeO.bind ?_ (fun _ => ?_)
set_option maxHeartbeats 8000000 in
set_option maxRecDepth 100000 in
theorem merge_Range.calls (k : Nat) (A0 : Option Addr) (c0 : Nat) (l0 : List (S54)) (a1 : Int) (a2 : Int) (r : List (S54)) (w : World) (hr0 : Kd.C k54 w A0 l0.length l0) (hc0 : l0.length ≤ c0) (h : merge_Range.f k l0 a1 a2 = some r) :
  Calls Try.prog 41 #[.slice A0 l0.length c0, .int .i64 a1, .int .i64 a2] w fun e w' => ∃ v0_ : Value, e = .returned (v0_) ∧ Kd.R k54 54 w' w.heap.size (fun _ => True) v0_ r ∧ Below w.heap.size w w' := by
 have hu54 := Try.underlying54
 have HR0 := Aside0.mk hr0
 have HC0 := Aside0.mk hc0
 clear hr0 hc0
 have HB := Aside0.mk (Below.refl w.heap.size w)
 have H : (merge_Range.l0 k a1 a2 ([] : List (S54)) l0 (l0.length : Int) 0) = some r := h
 clear h
 have H' := Aside0.mk H
 clear H
 go_enter Try.func41, Try.ntmps41
 go_wp2
 go_loopg [7, 12] k (fun kq v7 v12 w' => ∃ (x7_1 : List (S54)) (x12_1 : Int), v12 = .int .i64 x12_1 ∧ Aside0 (merge_Range.l0 kq a1 a2 x7_1 l0 (l0.length : Int) x12_1 = some r) ∧ Aside0 (kq ≤ k) ∧ Aside0 (Kd.R k54 54 w' w.heap.size (fun _ => True) v7 x7_1) ∧ Aside0 (Below w.heap.size w w'))
 case atStart => exact ⟨(([] : List (S54))), (0), (by first | rfl | (simp; done) | (simp [*]; done)), H', ⟨Nat.le_refl _⟩, ⟨by first | exact Kd.R_nil _ _ _ _ _ | exact Kd.N_nil _ _ _ _ _ | exact Kd.V_nil _ _ _ _ _ | exact Kd.Q_nil _ _ _ _ _ | exact Kd.S_nil _ _ _ _ _⟩, ⟨by repeat (first | (with_reducible first | exact HB.out | apply below_alloc | apply pw_below_drewN | apply below_drew1) | exact HB.out)⟩⟩
 case round =>
  clear H'
  (try clear p2)
  obtain ⟨x7_1, x12_1, rfl, HA, HK1, HO_7, HB⟩ := hrel
  cases gk with
  | zero => exact absurd HA.out (by simp [merge_Range.l0])
  | succ k1 =>
   have H := HA.out
   clear HA
   simp only [merge_Range.l0] at H
   by_cases c4 : x12_1 < (l0.length : Int)
   ·rw [if_pos c4] at H
    have c4b0 : decide (x12_1 < (l0.length : Int)) = true := decide_eq_true c4
    clear c4
    by_cases c5 : 0 ≤ x12_1
    ·rw [if_pos c5] at H
     have c5b0 : decide (0 ≤ x12_1) = true := decide_eq_true c5
     clear c5
     by_cases c6 : x12_1 < (l0.length : Int)
     ·rw [if_pos c6] at H
      have c6b0 : decide (x12_1 < (l0.length : Int)) = true := decide_eq_true c6
      clear c6
      by_cases c7 : ((rd_T54 l0 x12_1).f0) ≥ a1
      ·rw [if_pos c7] at H
       have c7b0 : decide (a1 ≤ ((rd_T54 l0 x12_1).f0)) = true := decide_eq_true c7
       clear c7
       by_cases c8 : ((rd_T54 l0 x12_1).f0) < a2
       ·rw [if_pos c8] at H
        have c8b0 : decide (((rd_T54 l0 x12_1).f0) < a2) = true := decide_eq_true c8
        clear c8
        by_cases c9 : x7_1.length < 8796093022208
        ·rw [if_pos c9] at H
         have LMc9 := Aside0.mk c9
         clear c9
         obtain ⟨y162, hy162⟩ : ∃ y_ : List (S54), y_ = (x7_1 ++ [(⟨(rd_T54 l0 x12_1).f0, (rd_T54 l0 x12_1).f1⟩ : S54)]) := ⟨_, rfl⟩
         replace H : (merge_Range.l0 k1 a1 a2 y162 l0 (l0.length : Int) (wrap64 (x12_1 + 1))) = some r := by first | (rw [hy162]; with_reducible exact H) | (have H2_ := (Option.bind_some _ _).symm.trans H; rw [hy162]; with_reducible exact H2_) | (have H2_ := (Option.bind_some _ _).symm.trans H; with_reducible exact H2_) | with_reducible exact H | (rw [hy162]; exact H) | exact H
         have Ny162 := Aside0.mk hy162
         clear hy162
         have H' := Aside0.mk H
         clear H
         have p160 : 0 ≤ (x12_1 : Int) := of_decide_eq_true (by first | (with_reducible assumption) | assumption)
         have q160 : x12_1 < (l0.length : Int) := of_decide_eq_true (by first | (with_reducible assumption) | assumption)
         obtain ⟨ad160, e160, hx160_0, hx160_1⟩ := at_T54 HR0.out x12_1 p160 q160
         cases e160
         replace hx160_0 := (HB.out.cell (World.block_lt_of_cell? w _ hx160_0)).trans hx160_0
         replace hx160_1 := (HB.out.cell (World.block_lt_of_cell? w _ hx160_1)).trans hx160_1
         replace p160 := eq_true p160
         replace q160 := eq_true q160
         go_wp2_with (first | ((with_reducible refine gate_dst (N := 9) rfl ?_); refine box_event ?hg (N := 9) ?hd (cs := #[.int .i64 0, .int .i64 0]) (t := 54) ?hr ?_; (case hd => rfl); (case hg => rfl); (case hr => first | (go_simp; done) | (go_simp; rfl)); intro gb161 hg w10 hbox hb; have n0_ := Aside0.mk (Kd.R_below (Kd.R_elderB (by (with_reducible repeat (first | apply Kd.R_alloc | apply Kd.R_drewN | apply Kd.R_drew)); exact HO_7.out) gb161 (Nat.le_of_eq hg.symm)) hb); have n1_ := Aside0.mk (below_step (by repeat (first | (with_reducible first | exact HB.out | apply below_alloc | apply pw_below_drewN | apply below_drew1) | exact HB.out)) hb); have n2_ := Aside0.mk (hbox); have n3_ := Aside0.mk ((by rw [hg]; exact (below_size (by repeat (first | (with_reducible first | exact HB.out | apply below_alloc | apply pw_below_drewN | apply below_drew1) | exact HB.out))) : w.heap.size ≤ gb161)); have n4_ := Aside0.mk ((by rw [hg]; exact (below_size (by repeat (first | (with_reducible first | exact HB.out | apply below_alloc | apply pw_below_drewN | apply below_drew1) | exact HB.out))) : w.heap.size ≤ gb161)); clear HO_7; clear HB; have HO_7 := n0_; have HB := n1_; have BK161 := n2_; have GW161 := n3_; have GE161 := n4_; clear n0_ n1_ n2_ n3_ n4_; clear hb hbox hg; have hcz11_0 : w10.cell? ⟨gb161, 0, none⟩ = some (.int .i64 0) := (blk_cell BK161.out 0).trans rfl; have hcz11_1 : w10.cell? ⟨gb161, 1, none⟩ = some (.int .i64 0) := (blk_cell BK161.out 1).trans rfl; have hfz11_0 := blk_frozen BK161.out 0; have hfz11_1 := blk_frozen BK161.out 1) | ((with_reducible refine gate_builtin (b := .append) (xs := #[.tmp 26, .tmp 28]) rfl ?_); at_builtin; refine Kd.R_append k54 (w0 := w) w.heap.size rfl (.tmp 26) (.tmp 28) 60 54 (.agg #[(.int .i64 0), (.int .i64 0)]) 16 rfl Try.underlying60 info54 rfl (by decide) (by omega) u7 x7_1 (⟨(rd_T54 l0 x12_1).f0, (rd_T54 l0 x12_1).f1⟩ : S54) [.int .i64 ((rd_T54 l0 x12_1).f0), .int .i64 ((rd_T54 l0 x12_1).f1)] (fun k_ => k_ ≠ gb161) (fun _ => False) rfl (by first | (go_simp; done) | (go_simp; rfl)) ?aP (fun _ hk => hk.elim) ?aF ?aO ?aB ?aS ?aL ?_; (case aP => exact k54_mkM _ _ _ (⟨(rd_T54 l0 x12_1).f0, (rd_T54 l0 x12_1).f1⟩ : S54)); (case aB => exact (by repeat (first | (with_reducible first | exact HB.out | apply below_alloc | apply pw_below_drewN | apply below_drew1 | refine below_set ?_ GE161.out) | exact HB.out))); (case aF => exact (fun k_ hk => Kd.freshB (g := gb161) (o := .cells #[.int .i64 ((rd_T54 l0 x12_1).f0), .int .i64 ((rd_T54 l0 x12_1).f1)] 54 (0, 0)) (by (with_reducible repeat (first | refine blk_drewN ?_ _ | refine blk_drew ?_ | refine blk_alloc ?_ _)); refine blk_put (cs := #[.int .i64 ((rd_T54 l0 x12_1).f0), .int .i64 0]) ?_ 1 _ rfl; (with_reducible repeat (first | refine blk_drewN ?_ _ | refine blk_drew ?_ | refine blk_alloc ?_ _)); refine blk_put (cs := #[.int .i64 0, .int .i64 0]) ?_ 0 _ rfl; (with_reducible repeat (first | refine blk_drewN ?_ _ | refine blk_drew ?_ | refine blk_alloc ?_ _)); exact BK161.out) k_ hk)); (case aO => exact (by (with_reducible repeat (first | apply Kd.R_alloc | apply Kd.R_drewN | apply Kd.R_drew)); exact Kd.R_mono (Kd.R_far (p := ⟨gb161, 1, none⟩) (Kd.R_far (p := ⟨gb161, 0, none⟩) (Kd.R_mono HO_7.out (fun k_ hk => (⟨hk, hk.2⟩ : _ ∧ k_ ≠ gb161))) (fun _ hk => hk.2) (.int .i64 ((rd_T54 l0 x12_1).f0))) (fun _ hk => hk.2) (.int .i64 ((rd_T54 l0 x12_1).f1))) (fun _ hk => hk.1.2))); (case aS => exact (below_size (by repeat (first | (with_reducible first | exact HB.out | apply below_alloc | apply pw_below_drewN | apply below_drew1 | refine below_set ?_ GE161.out) | exact HB.out)))); (case aL => have := LMc9.out; omega); intro v163 w12 ho hb hg hat; rw [← Ny162.out] at ho; have n0_ := Aside0.mk (blk_grown (g := gb161) (o := .cells #[.int .i64 ((rd_T54 l0 x12_1).f0), .int .i64 ((rd_T54 l0 x12_1).f1)] 54 (0, 0)) (by (with_reducible repeat (first | refine blk_drewN ?_ _ | refine blk_drew ?_ | refine blk_alloc ?_ _)); refine blk_put (cs := #[.int .i64 ((rd_T54 l0 x12_1).f0), .int .i64 0]) ?_ 1 _ rfl; (with_reducible repeat (first | refine blk_drewN ?_ _ | refine blk_drew ?_ | refine blk_alloc ?_ _)); refine blk_put (cs := #[.int .i64 0, .int .i64 0]) ?_ 0 _ rfl; (with_reducible repeat (first | refine blk_drewN ?_ _ | refine blk_drew ?_ | refine blk_alloc ?_ _)); exact BK161.out) hg (Kd.R_away HO_7.out (fun _ hk => hk.2))); have n1_ := Aside0.mk (hb); have n2_ := Aside0.mk (ho); clear BK161; clear HB; clear HO_7; have BK161 := n0_; have HB := n1_; have HO164 := n2_; clear n0_ n1_ n2_; clear ho hb hg hat))
         go_roundg k1
         case measure => have := HK1.out; omega
         case rel => exact ⟨(y162), (wrap64 (x12_1 + 1)), (by first | rfl | (simp; done) | (simp [*]; done)), H', ⟨by have := HK1.out; omega⟩, ⟨by (with_reducible repeat (first | apply Kd.R_alloc | apply Kd.R_drewN | apply Kd.R_drew)); exact Kd.R_mono HO164.out (fun _ hk => trivial)⟩, ⟨by repeat (first | (with_reducible first | exact HB.out | apply below_alloc | apply pw_below_drewN | apply below_drew1 | refine below_set ?_ GE161.out) | exact HB.out)⟩⟩
        ·rw [if_neg c9] at H
         exact absurd H (by simp)
       ·rw [if_neg c8] at H
        have c8b0 : decide (((rd_T54 l0 x12_1).f0) < a2) = false := decide_eq_false c8
        clear c8
        have H' := Aside0.mk H
        clear H
        have p160 : 0 ≤ (x12_1 : Int) := of_decide_eq_true (by first | (with_reducible assumption) | assumption)
        have q160 : x12_1 < (l0.length : Int) := of_decide_eq_true (by first | (with_reducible assumption) | assumption)
        obtain ⟨ad160, e160, hx160_0, hx160_1⟩ := at_T54 HR0.out x12_1 p160 q160
        cases e160
        replace hx160_0 := (HB.out.cell (World.block_lt_of_cell? w _ hx160_0)).trans hx160_0
        replace hx160_1 := (HB.out.cell (World.block_lt_of_cell? w _ hx160_1)).trans hx160_1
        replace p160 := eq_true p160
        replace q160 := eq_true q160
        go_wp2_with (first | ((with_reducible refine gate_dst (N := 9) rfl ?_); refine box_event ?hg (N := 9) ?hd (cs := #[.int .i64 0, .int .i64 0]) (t := 54) ?hr ?_; (case hd => rfl); (case hg => rfl); (case hr => first | (go_simp; done) | (go_simp; rfl)); intro gb161 hg w13 hbox hb; have n0_ := Aside0.mk (Kd.R_below (Kd.R_elderB (by (with_reducible repeat (first | apply Kd.R_alloc | apply Kd.R_drewN | apply Kd.R_drew)); exact HO_7.out) gb161 (Nat.le_of_eq hg.symm)) hb); have n1_ := Aside0.mk (below_step (by repeat (first | (with_reducible first | exact HB.out | apply below_alloc | apply pw_below_drewN | apply below_drew1) | exact HB.out)) hb); have n2_ := Aside0.mk (hbox); have n3_ := Aside0.mk ((by rw [hg]; exact (below_size (by repeat (first | (with_reducible first | exact HB.out | apply below_alloc | apply pw_below_drewN | apply below_drew1) | exact HB.out))) : w.heap.size ≤ gb161)); have n4_ := Aside0.mk ((by rw [hg]; exact (below_size (by repeat (first | (with_reducible first | exact HB.out | apply below_alloc | apply pw_below_drewN | apply below_drew1) | exact HB.out))) : w.heap.size ≤ gb161)); clear HO_7; clear HB; have HO_7 := n0_; have HB := n1_; have BK161 := n2_; have GW161 := n3_; have GE161 := n4_; clear n0_ n1_ n2_ n3_ n4_; clear hb hbox hg; have hcz14_0 : w13.cell? ⟨gb161, 0, none⟩ = some (.int .i64 0) := (blk_cell BK161.out 0).trans rfl; have hcz14_1 : w13.cell? ⟨gb161, 1, none⟩ = some (.int .i64 0) := (blk_cell BK161.out 1).trans rfl; have hfz14_0 := blk_frozen BK161.out 0; have hfz14_1 := blk_frozen BK161.out 1))
        go_roundg k1
        case measure => have := HK1.out; omega
        case rel => exact ⟨(x7_1), (wrap64 (x12_1 + 1)), (by first | rfl | (simp; done) | (simp [*]; done)), H', ⟨by have := HK1.out; omega⟩, ⟨by (with_reducible repeat (first | apply Kd.R_alloc | apply Kd.R_drewN | apply Kd.R_drew)); exact Kd.R_mono (Kd.R_far (p := ⟨gb161, 1, none⟩) (Kd.R_far (p := ⟨gb161, 0, none⟩) (Kd.R_mono HO_7.out (fun k_ hk => (⟨hk, hk.2⟩ : _ ∧ k_ ≠ gb161))) (fun _ hk => hk.2) (.int .i64 ((rd_T54 l0 x12_1).f0))) (fun _ hk => hk.2) (.int .i64 ((rd_T54 l0 x12_1).f1))) (fun _ hk => trivial)⟩, ⟨by repeat (first | (with_reducible first | exact HB.out | apply below_alloc | apply pw_below_drewN | apply below_drew1 | refine below_set ?_ GE161.out) | exact HB.out)⟩⟩
      ·rw [if_neg c7] at H
       have c7b0 : decide (a1 ≤ ((rd_T54 l0 x12_1).f0)) = false := decide_eq_false c7
       clear c7
       have H' := Aside0.mk H
       clear H
       have p160 : 0 ≤ (x12_1 : Int) := of_decide_eq_true (by first | (with_reducible assumption) | assumption)
       have q160 : x12_1 < (l0.length : Int) := of_decide_eq_true (by first | (with_reducible assumption) | assumption)
       obtain ⟨ad160, e160, hx160_0, hx160_1⟩ := at_T54 HR0.out x12_1 p160 q160
       cases e160
       replace hx160_0 := (HB.out.cell (World.block_lt_of_cell? w _ hx160_0)).trans hx160_0
       replace hx160_1 := (HB.out.cell (World.block_lt_of_cell? w _ hx160_1)).trans hx160_1
       replace p160 := eq_true p160
       replace q160 := eq_true q160
       go_wp2_with (first | ((with_reducible refine gate_dst (N := 9) rfl ?_); refine box_event ?hg (N := 9) ?hd (cs := #[.int .i64 0, .int .i64 0]) (t := 54) ?hr ?_; (case hd => rfl); (case hg => rfl); (case hr => first | (go_simp; done) | (go_simp; rfl)); intro gb161 hg w15 hbox hb; have n0_ := Aside0.mk (Kd.R_below (Kd.R_elderB (by (with_reducible repeat (first | apply Kd.R_alloc | apply Kd.R_drewN | apply Kd.R_drew)); exact HO_7.out) gb161 (Nat.le_of_eq hg.symm)) hb); have n1_ := Aside0.mk (below_step (by repeat (first | (with_reducible first | exact HB.out | apply below_alloc | apply pw_below_drewN | apply below_drew1) | exact HB.out)) hb); have n2_ := Aside0.mk (hbox); have n3_ := Aside0.mk ((by rw [hg]; exact (below_size (by repeat (first | (with_reducible first | exact HB.out | apply below_alloc | apply pw_below_drewN | apply below_drew1) | exact HB.out))) : w.heap.size ≤ gb161)); have n4_ := Aside0.mk ((by rw [hg]; exact (below_size (by repeat (first | (with_reducible first | exact HB.out | apply below_alloc | apply pw_below_drewN | apply below_drew1) | exact HB.out))) : w.heap.size ≤ gb161)); clear HO_7; clear HB; have HO_7 := n0_; have HB := n1_; have BK161 := n2_; have GW161 := n3_; have GE161 := n4_; clear n0_ n1_ n2_ n3_ n4_; clear hb hbox hg; have hcz16_0 : w15.cell? ⟨gb161, 0, none⟩ = some (.int .i64 0) := (blk_cell BK161.out 0).trans rfl; have hcz16_1 : w15.cell? ⟨gb161, 1, none⟩ = some (.int .i64 0) := (blk_cell BK161.out 1).trans rfl; have hfz16_0 := blk_frozen BK161.out 0; have hfz16_1 := blk_frozen BK161.out 1))
       go_roundg k1
       case measure => have := HK1.out; omega
       case rel => exact ⟨(x7_1), (wrap64 (x12_1 + 1)), (by first | rfl | (simp; done) | (simp [*]; done)), H', ⟨by have := HK1.out; omega⟩, ⟨by (with_reducible repeat (first | apply Kd.R_alloc | apply Kd.R_drewN | apply Kd.R_drew)); exact Kd.R_mono (Kd.R_far (p := ⟨gb161, 1, none⟩) (Kd.R_far (p := ⟨gb161, 0, none⟩) (Kd.R_mono HO_7.out (fun k_ hk => (⟨hk, hk.2⟩ : _ ∧ k_ ≠ gb161))) (fun _ hk => hk.2) (.int .i64 ((rd_T54 l0 x12_1).f0))) (fun _ hk => hk.2) (.int .i64 ((rd_T54 l0 x12_1).f1))) (fun _ hk => trivial)⟩, ⟨by repeat (first | (with_reducible first | exact HB.out | apply below_alloc | apply pw_below_drewN | apply below_drew1 | refine below_set ?_ GE161.out) | exact HB.out)⟩⟩
     ·rw [if_neg c6] at H
      exact absurd H (by simp)
    ·rw [if_neg c5] at H
     exact absurd H (by simp)
   ·rw [if_neg c4] at H
    have c4b0 : decide (x12_1 < (l0.length : Int)) = false := decide_eq_false c4
    clear c4
    obtain rfl := Option.some.inj H
    go_wp2
    go_ret
    exact ⟨_, by first | rfl | (simp [errW_none, errW_some] <;> rfl) | (simp [*, errW_none, errW_some] <;> rfl), by (with_reducible repeat (first | apply Kd.R_alloc | apply Kd.R_drewN | apply Kd.R_drew)); exact HO_7.out, by repeat (first | (with_reducible first | exact HB.out | apply below_alloc | apply pw_below_drewN | apply below_drew1) | exact HB.out)⟩

/-! ### merge_Put: function 42 -/
def merge_Put.f (l0 : List S54) (a1_0 : Int) (a1_1 : Int) : Option (List S54) := if l0.length < 549755813888 then some (Go.Proofs.Ytjilnpbgclnecac.XMg.mrg merge_Samples.key (l0 ++ [⟨a1_0, a1_1⟩])) else none
-- WALK
section
open Go.Proofs.Ytjilnpbgclnecac.XH Go.Proofs.Ytjilnpbgclnecac.XMg
theorem merge_Put.callOf {W : World} {A : Option Addr} {c : Nat} {xs : List (List S54)} (hC : Kd.C (Kd.slice 54 k54) W A xs.length xs) (hc : xs.length ≤ c) (h1 : xs.length < 1099511627776) (h2 : xs.flatten.length < 1099511627776) :
    Calls Try.prog 38 #[.slice A xs.length c] W fun e w' => ∃ (A' : Option Addr) (c' : Nat), e = .returned (.slice A' (mrg merge_Samples.key xs.flatten).length c') ∧ Kd.C k54 w' A' (mrg merge_Samples.key xs.flatten).length (mrg merge_Samples.key xs.flatten) ∧ (mrg merge_Samples.key xs.flatten).length ≤ c' ∧ Below W.heap.size W w' := by
  refine (merge_Samples.calls A c xs (mrg merge_Samples.key xs.flatten) W hC hc (by unfold merge_Samples.f; rw [if_pos ⟨h1, h2⟩])).mono ?_
  rintro e w' ⟨v, rfl, ho, hb⟩
  obtain ⟨A', c', rfl⟩ := Kd.R_slice ho
  obtain ⟨_, h3, h4⟩ := Kd.R_reads' ho
  exact ⟨A', c', rfl, h4, h3, hb⟩
theorem merge_Put.litC {W : World} {os : Obj} {cs : Array Value} (ho : os = .cells cs 60) {xs : List (List S54)} (hl : xs.length ≤ 9223372036854775807) (h : ∀ (j : Nat) (x : List S54), xs[j]? = some x → ∃ (A : Option Addr) (c : Nat), cs[j]? = some (Value.slice A x.length c) ∧ x.length ≤ c ∧ Kd.C k54 W A x.length x) :
    Kd.C (Kd.slice 54 k54) (W.alloc os) (some ⟨W.heap.size, 0, none⟩) xs.length xs := by
  subst ho
  refine ⟨rfl, hl, fun hp => ⟨_, rfl, fun j x hj => ?_⟩⟩
  obtain ⟨A, c, h1, h2, h3⟩ := h j x hj
  refine ⟨[.slice A x.length c], rfl, ⟨A, c, rfl, h2, Kd.C_alloc h3 _⟩, fun i u hu => ?_⟩
  match i with
  | 0 =>
    rw [show (⟨W.heap.size, 0, none⟩ : Addr).add (j * (Kd.slice 54 k54).sz + 0) = ⟨W.heap.size, j, none⟩ from by
      rw [show j * (Kd.slice 54 k54).sz + 0 = j from Nat.mul_one j]
      unfold Addr.add
      split
      · rename_i h; rw [h]
      · simp, blk_cell (blk_new W _) j, h1, ← hu]
    rfl
  | i + 1 => simp at hu
theorem merge_Put.two {W : World} {A B : Option Addr} {ca cb : Nat} {x y : List S54} (hx : Kd.C k54 W A x.length x) (hxc : x.length ≤ ca) (hy : Kd.C k54 W B y.length y) (hyc : y.length ≤ cb) (hl : x.length + y.length < 1099511627776) :
    Calls Try.prog 38 #[.slice (some ⟨W.heap.size, 0, none⟩) 2 2] (W.alloc (.cells #[.slice A x.length ca, .slice B y.length cb] 60)) fun e w' => ∃ (A' : Option Addr) (c' : Nat), e = .returned (.slice A' (mrg merge_Samples.key (x ++ y)).length c') ∧ Kd.C k54 w' A' (mrg merge_Samples.key (x ++ y)).length (mrg merge_Samples.key (x ++ y)) ∧ (mrg merge_Samples.key (x ++ y)).length ≤ c' ∧ Below W.heap.size W w' := by
  have h := merge_Put.callOf (xs := [x, y]) (c := 2) (merge_Put.litC (W := W) (cs := #[.slice A x.length ca, .slice B y.length cb]) rfl (by simp) (fun j z hj => by
    match j with
    | 0 => have e := Option.some.inj hj; subst e; exact ⟨A, ca, rfl, hxc, hx⟩
    | 1 => have e := Option.some.inj hj; subst e; exact ⟨B, cb, rfl, hyc, hy⟩
    | j + 2 => simp at hj)) (by simp) (by simp) (by simpa using hl)
  rw [show ([x, y] : List (List S54)).flatten = x ++ y from by simp] at h
  refine h.mono ?_
  rintro e w' ⟨A', c', he, h1, h2, h3⟩
  exact ⟨A', c', he, h1, h2, Below.trans (below_alloc (Below.refl _ _) _) (h3.mono (by simp))⟩
theorem merge_Put.oneC (W : World) (s : S54) : Kd.C k54 (W.alloc (.cells #[.int .i64 s.f0, .int .i64 s.f1] 54)) (some ⟨W.heap.size, 0, none⟩) [s].length [s] := by
  refine ⟨rfl, by simp, fun hp => ⟨_, rfl, fun j x hj => ?_⟩⟩
  match j with
  | 0 =>
    have e := Option.some.inj hj
    subst e
    refine ⟨_, rfl, k54_mk _ _, fun i u hu => ?_⟩
    match i with
    | 0 => exact (blk_cell (blk_new W _) 0).trans hu
    | 1 => exact (blk_cell (blk_new W _) 1).trans hu
    | i + 2 => simp at hu
  | j + 1 => simp at hj
set_option maxHeartbeats 8000000 in
set_option maxRecDepth 100000 in
theorem merge_Put.calls (A0 : Option Addr) (c0 : Nat) (l0 : List S54) (a1_0 : Int) (a1_1 : Int) (r : List S54) (w : World) (hr0 : Kd.C k54 w A0 l0.length l0) (hc0 : l0.length ≤ c0) (h : merge_Put.f l0 a1_0 a1_1 = some r) :
    Calls Try.prog 42 #[.slice A0 l0.length c0, .agg #[.int .i64 a1_0, .int .i64 a1_1]] w fun e w' => ∃ v0_ : Value, e = .returned (v0_) ∧ (∃ A' c', v0_ = .slice A' r.length c' ∧ Kd.C k54 w' A' r.length r ∧ r.length ≤ c') ∧ Below w.heap.size w w' := by
  unfold merge_Put.f at h
  split at h
  case isFalse => cases h
  rename_i hl
  injection h with h
  subst h
  obtain ⟨W1, hW1⟩ : ∃ W1, W1 = w.alloc (.cells #[.int .i64 a1_0, .int .i64 a1_1] 54) := ⟨_, rfl⟩
  obtain ⟨g, hg⟩ : ∃ g, g = w.heap.size := ⟨_, rfl⟩
  have hb1 : Below w.heap.size w W1 := by rw [hW1]; exact below_alloc (Below.refl _ _) _
  have hbk : W1.heap[g]? = some (.cells #[.int .i64 a1_0, .int .i64 a1_1] 54 (0, 0)) := by rw [hW1, hg]; exact blk_new _ _
  have y0 : W1.cell? ⟨g, 0, none⟩ = some (.int .i64 a1_0) := (blk_cell hbk 0).trans rfl
  have y1 : W1.cell? ⟨g, 1, none⟩ = some (.int .i64 a1_1) := (blk_cell hbk 1).trans rfl
  have ht := (merge_Put.two (W := W1.alloc (.cells #[.int .i64 a1_0, .int .i64 a1_1] 54)) (cb := 1) (Kd.C_alloc (Kd.C_below hr0 hb1) _) hc0 (merge_Put.oneC W1 ⟨a1_0, a1_1⟩) (by simp) (by simp; omega))
  simp only [World.size_alloc, List.length_singleton] at ht
  have HT := Aside0.mk ht
  clear ht
  have HB1 := Aside0.mk hb1
  clear hr0 hc0 hl hb1 hbk
  go_enter Try.func42, Try.ntmps42
  go_upto_region 1 with fail
  refine cwp_world ?_
  intro W2 hW2
  obtain rfl : W2 = W1 := hW2.trans hW1.symm
  rw [← hg]
  clear hW1 hW2 hg
  go_wp2_with (go_at_call 38; (with_reducible refine HT.out.mono ?_); rintro e w9 ⟨A', c', rfl, hC9, hc9, hb9⟩; have HC9 := Aside0.mk hC9; have HN9 := Aside0.mk hc9; have HB9 := Aside0.mk hb9; clear hC9 hc9 hb9)
  go_ret
  exact ⟨_, rfl, ⟨_, _, rfl, HC9.out, HN9.out⟩, below_step HB1.out (Below.trans (below_alloc (Below.refl _ _) _) (HB9.out.mono (by simp)))⟩
end


/-! ### lysimeterref16_Range: function 43 -/
def lysimeterref16_Range.l0 : Nat → List (S54) → Int → Int → List (S54) → Int → Option ((List (S54)))
 | 0, _, _, _, _, _ => none
 | k + 1, x0, x1, x2, x7, x8 => if x8 < (x0.length : Int) then (if 0 ≤ x8 then (if ((rd_T54 x0 x8).f0) ≥ x1 then (if ((rd_T54 x0 x8).f0) < x2 then (if x7.length < 8796093022208 then (lysimeterref16_Range.l0 k x0 x1 x2 (x7 ++ [(⟨(rd_T54 x0 x8).f0, (rd_T54 x0 x8).f1⟩ : S54)]) (wrap64 (x8 + 1))) else (none)) else (lysimeterref16_Range.l0 k x0 x1 x2 x7 (wrap64 (x8 + 1)))) else (lysimeterref16_Range.l0 k x0 x1 x2 x7 (wrap64 (x8 + 1)))) else (none)) else (some x7)
def lysimeterref16_Range.f (k : Nat) (l0 : List (S54)) (a1 : Int) (a2 : Int) : Option ((List (S54))) := lysimeterref16_Range.l0 k l0 a1 a2 ([] : List (S54)) 0
theorem lysimeterref16_Range.mono_l : ∀ k, (∀ y0 y1 y2 y3 y4, LeO (lysimeterref16_Range.l0 k y0 y1 y2 y3 y4) (lysimeterref16_Range.l0 (k + 1) y0 y1 y2 y3 y4))
 | 0 => fun _ _ _ _ _ r h => by simp [lysimeterref16_Range.l0] at h
 | k + 1 => by
  have ih0 := lysimeterref16_Range.mono_l k
  ·intro y0 y1 y2 y3 y4
   unfold lysimeterref16_Range.l0
   repeat' first
   | (with_reducible exact ih0 _ _ _ _ _)
   | (with_reducible exact LeO.refl _)
   | (with_reducible exact LeO.none _)
   | (with_reducible refine LeO.ite ?_ ?_)
   | (with_reducible refine LeO.bind ?_ (fun _ => ?_))
   | exact ih0 _ _ _ _ _
   | exact LeO.none _
   | refine LeO.ite ?_ ?_
   | refine LeO.bind ?_ (fun _ => ?_)
theorem lysimeterref16_Range.mono : ∀ a0 a1 a2 k, LeO (lysimeterref16_Range.f k a0 a1 a2) (lysimeterref16_Range.f (k + 1) a0 a1 a2) := by
 intro a0 a1 a2 k
 have ih0 := lysimeterref16_Range.mono_l k
 unfold lysimeterref16_Range.f
 repeat' first
   | (with_reducible exact ih0 _ _ _ _ _)
   | (with_reducible exact LeO.refl _)
   | (with_reducible exact LeO.none _)
   | (with_reducible refine LeO.ite ?_ ?_)
   | (with_reducible refine LeO.bind ?_ (fun _ => ?_))
   | exact ih0 _ _ _ _ _
   | exact LeO.none _
   | refine LeO.ite ?_ ?_
   | refine LeO.bind ?_ (fun _ => ?_)
set_option maxHeartbeats 8000000 in
set_option maxRecDepth 100000 in
theorem lysimeterref16_Range.calls (k : Nat) (A0 : Option Addr) (c0 : Nat) (l0 : List (S54)) (a1 : Int) (a2 : Int) (r : List (S54)) (w : World) (hr0 : Kd.C k54 w A0 l0.length l0) (hc0 : l0.length ≤ c0) (h : lysimeterref16_Range.f k l0 a1 a2 = some r) :
  Calls Try.prog 43 #[.slice A0 l0.length c0, .int .i64 a1, .int .i64 a2] w fun e w' => ∃ v0_ : Value, e = .returned (v0_) ∧ Kd.R k54 54 w' w.heap.size (fun _ => True) v0_ r ∧ Below w.heap.size w w' := by
 have hu54 := Try.underlying54
 have HR0 := Aside0.mk hr0
 have HC0 := Aside0.mk hc0
 clear hr0 hc0
 have HB := Aside0.mk (Below.refl w.heap.size w)
 have H : (lysimeterref16_Range.l0 k l0 a1 a2 ([] : List (S54)) 0) = some r := h
 clear h
 have H' := Aside0.mk H
 clear H
 go_enter Try.func43, Try.ntmps43
 go_wp2
 go_loopg [7, 8] k (fun kq v7 v8 w' => ∃ (x7_1 : List (S54)) (x8_1 : Int), v8 = .int .i64 x8_1 ∧ Aside0 (lysimeterref16_Range.l0 kq l0 a1 a2 x7_1 x8_1 = some r) ∧ Aside0 (kq ≤ k) ∧ Aside0 (Kd.R k54 54 w' w.heap.size (fun _ => True) v7 x7_1) ∧ Aside0 (Below w.heap.size w w'))
 case atStart => exact ⟨(([] : List (S54))), (0), (by first | rfl | (simp; done) | (simp [*]; done)), H', ⟨Nat.le_refl _⟩, ⟨by first | exact Kd.R_nil _ _ _ _ _ | exact Kd.N_nil _ _ _ _ _ | exact Kd.V_nil _ _ _ _ _ | exact Kd.Q_nil _ _ _ _ _ | exact Kd.S_nil _ _ _ _ _⟩, ⟨by repeat (first | (with_reducible first | exact HB.out | apply below_alloc | apply pw_below_drewN | apply below_drew1) | exact HB.out)⟩⟩
 case round =>
  clear H'
  (try clear p2)
  obtain ⟨x7_1, x8_1, rfl, HA, HK1, HO_7, HB⟩ := hrel
  cases gk with
  | zero => exact absurd HA.out (by simp [lysimeterref16_Range.l0])
  | succ k1 =>
   have H := HA.out
   clear HA
   simp only [lysimeterref16_Range.l0] at H
   by_cases c4 : x8_1 < (l0.length : Int)
   ·rw [if_pos c4] at H
    have c4b0 : decide (x8_1 < (l0.length : Int)) = true := decide_eq_true c4
    clear c4
    by_cases c5 : 0 ≤ x8_1
    ·rw [if_pos c5] at H
     have c5b0 : decide (0 ≤ x8_1) = true := decide_eq_true c5
     clear c5
     by_cases c6 : ((rd_T54 l0 x8_1).f0) ≥ a1
     ·rw [if_pos c6] at H
      have c6b0 : decide (a1 ≤ ((rd_T54 l0 x8_1).f0)) = true := decide_eq_true c6
      clear c6
      by_cases c7 : ((rd_T54 l0 x8_1).f0) < a2
      ·rw [if_pos c7] at H
       have c7b0 : decide (((rd_T54 l0 x8_1).f0) < a2) = true := decide_eq_true c7
       clear c7
       by_cases c8 : x7_1.length < 8796093022208
       ·rw [if_pos c8] at H
        have LMc8 := Aside0.mk c8
        clear c8
        obtain ⟨y168, hy168⟩ : ∃ y_ : List (S54), y_ = (x7_1 ++ [(⟨(rd_T54 l0 x8_1).f0, (rd_T54 l0 x8_1).f1⟩ : S54)]) := ⟨_, rfl⟩
        replace H : (lysimeterref16_Range.l0 k1 l0 a1 a2 y168 (wrap64 (x8_1 + 1))) = some r := by first | (rw [hy168]; with_reducible exact H) | (have H2_ := (Option.bind_some _ _).symm.trans H; rw [hy168]; with_reducible exact H2_) | (have H2_ := (Option.bind_some _ _).symm.trans H; with_reducible exact H2_) | with_reducible exact H | (rw [hy168]; exact H) | exact H
        have Ny168 := Aside0.mk hy168
        clear hy168
        have H' := Aside0.mk H
        clear H
        have p165 : 0 ≤ (x8_1 : Int) := of_decide_eq_true (by first | (with_reducible assumption) | assumption)
        have q165 : x8_1 < (l0.length : Int) := of_decide_eq_true (by first | (with_reducible assumption) | assumption)
        obtain ⟨ad165, e165, hx165_0, hx165_1⟩ := at_T54 HR0.out x8_1 p165 q165
        cases e165
        replace hx165_0 := (HB.out.cell (World.block_lt_of_cell? w _ hx165_0)).trans hx165_0
        replace hx165_1 := (HB.out.cell (World.block_lt_of_cell? w _ hx165_1)).trans hx165_1
        replace p165 := eq_true p165
        replace q165 := eq_true q165
        have p166 : 0 ≤ (x8_1 : Int) := of_decide_eq_true (by first | (with_reducible assumption) | assumption)
        have q166 : x8_1 < (l0.length : Int) := of_decide_eq_true (by first | (with_reducible assumption) | assumption)
        obtain ⟨ad166, e166, hx166_0, hx166_1⟩ := at_T54 HR0.out x8_1 p166 q166
        obtain rfl : ad165 = ad166 := (by injection e166)
        replace hx166_0 := (HB.out.cell (World.block_lt_of_cell? w _ hx166_0)).trans hx166_0
        replace hx166_1 := (HB.out.cell (World.block_lt_of_cell? w _ hx166_1)).trans hx166_1
        replace p166 := eq_true p166
        replace q166 := eq_true q166
        have p167 : 0 ≤ (x8_1 : Int) := of_decide_eq_true (by first | (with_reducible assumption) | assumption)
        have q167 : x8_1 < (l0.length : Int) := of_decide_eq_true (by first | (with_reducible assumption) | assumption)
        obtain ⟨ad167, e167, hx167_0, hx167_1⟩ := at_T54 HR0.out x8_1 p167 q167
        obtain rfl : ad165 = ad167 := (by injection e167)
        replace hx167_0 := (HB.out.cell (World.block_lt_of_cell? w _ hx167_0)).trans hx167_0
        replace hx167_1 := (HB.out.cell (World.block_lt_of_cell? w _ hx167_1)).trans hx167_1
        replace p167 := eq_true p167
        replace q167 := eq_true q167
        go_wp2_with (first | ((with_reducible refine gate_builtin (b := .append) (xs := #[.tmp 31, .tmp 36]) rfl ?_); at_builtin; refine Kd.R_append k54 (w0 := w) w.heap.size rfl (.tmp 31) (.tmp 36) 60 54 (.agg #[(.int .i64 0), (.int .i64 0)]) 16 rfl Try.underlying60 info54 rfl (by decide) (by omega) u7 x7_1 (⟨(rd_T54 l0 x8_1).f0, (rd_T54 l0 x8_1).f1⟩ : S54) [.int .i64 ((rd_T54 l0 x8_1).f0), .int .i64 ((rd_T54 l0 x8_1).f1)] (fun _ => True) (fun _ => False) rfl rfl ?aP (fun _ hk => hk.elim) ?aF ?aO ?aB ?aS ?aL ?_; (case aP => exact k54_mkM _ _ _ (⟨(rd_T54 l0 x8_1).f0, (rd_T54 l0 x8_1).f1⟩ : S54)); (case aB => exact (by repeat (first | (with_reducible first | exact HB.out | apply below_alloc | apply pw_below_drewN | apply below_drew1) | exact HB.out))); (case aF => exact (fun _ _ => trivial)); (case aO => exact (by (with_reducible repeat (first | apply Kd.R_alloc | apply Kd.R_drewN | apply Kd.R_drew)); exact HO_7.out)); (case aS => exact (below_size (by repeat (first | (with_reducible first | exact HB.out | apply below_alloc | apply pw_below_drewN | apply below_drew1) | exact HB.out)))); (case aL => have := LMc8.out; omega); intro v169 w9 ho hb hg hat; rw [← Ny168.out] at ho; have n0_ := Aside0.mk (hb); have n1_ := Aside0.mk (ho); clear HB; clear HO_7; have HB := n0_; have HO170 := n1_; clear n0_ n1_; clear ho hb hg hat))
        go_roundg k1
        case measure => have := HK1.out; omega
        case rel => exact ⟨(y168), (wrap64 (x8_1 + 1)), (by first | rfl | (simp; done) | (simp [*]; done)), H', ⟨by have := HK1.out; omega⟩, ⟨by (with_reducible repeat (first | apply Kd.R_alloc | apply Kd.R_drewN | apply Kd.R_drew)); exact HO170.out⟩, ⟨by repeat (first | (with_reducible first | exact HB.out | apply below_alloc | apply pw_below_drewN | apply below_drew1) | exact HB.out)⟩⟩
       ·rw [if_neg c8] at H
        exact absurd H (by simp)
      ·rw [if_neg c7] at H
       have c7b0 : decide (((rd_T54 l0 x8_1).f0) < a2) = false := decide_eq_false c7
       clear c7
       have H' := Aside0.mk H
       clear H
       have p165 : 0 ≤ (x8_1 : Int) := of_decide_eq_true (by first | (with_reducible assumption) | assumption)
       have q165 : x8_1 < (l0.length : Int) := of_decide_eq_true (by first | (with_reducible assumption) | assumption)
       obtain ⟨ad165, e165, hx165_0, hx165_1⟩ := at_T54 HR0.out x8_1 p165 q165
       cases e165
       replace hx165_0 := (HB.out.cell (World.block_lt_of_cell? w _ hx165_0)).trans hx165_0
       replace hx165_1 := (HB.out.cell (World.block_lt_of_cell? w _ hx165_1)).trans hx165_1
       replace p165 := eq_true p165
       replace q165 := eq_true q165
       have p166 : 0 ≤ (x8_1 : Int) := of_decide_eq_true (by first | (with_reducible assumption) | assumption)
       have q166 : x8_1 < (l0.length : Int) := of_decide_eq_true (by first | (with_reducible assumption) | assumption)
       obtain ⟨ad166, e166, hx166_0, hx166_1⟩ := at_T54 HR0.out x8_1 p166 q166
       obtain rfl : ad165 = ad166 := (by injection e166)
       replace hx166_0 := (HB.out.cell (World.block_lt_of_cell? w _ hx166_0)).trans hx166_0
       replace hx166_1 := (HB.out.cell (World.block_lt_of_cell? w _ hx166_1)).trans hx166_1
       replace p166 := eq_true p166
       replace q166 := eq_true q166
       go_wp2
       go_roundg k1
       case measure => have := HK1.out; omega
       case rel => exact ⟨(x7_1), (wrap64 (x8_1 + 1)), (by first | rfl | (simp; done) | (simp [*]; done)), H', ⟨by have := HK1.out; omega⟩, ⟨by (with_reducible repeat (first | apply Kd.R_alloc | apply Kd.R_drewN | apply Kd.R_drew)); exact HO_7.out⟩, ⟨by repeat (first | (with_reducible first | exact HB.out | apply below_alloc | apply pw_below_drewN | apply below_drew1) | exact HB.out)⟩⟩
     ·rw [if_neg c6] at H
      have c6b0 : decide (a1 ≤ ((rd_T54 l0 x8_1).f0)) = false := decide_eq_false c6
      clear c6
      have H' := Aside0.mk H
      clear H
      have p165 : 0 ≤ (x8_1 : Int) := of_decide_eq_true (by first | (with_reducible assumption) | assumption)
      have q165 : x8_1 < (l0.length : Int) := of_decide_eq_true (by first | (with_reducible assumption) | assumption)
      obtain ⟨ad165, e165, hx165_0, hx165_1⟩ := at_T54 HR0.out x8_1 p165 q165
      cases e165
      replace hx165_0 := (HB.out.cell (World.block_lt_of_cell? w _ hx165_0)).trans hx165_0
      replace hx165_1 := (HB.out.cell (World.block_lt_of_cell? w _ hx165_1)).trans hx165_1
      replace p165 := eq_true p165
      replace q165 := eq_true q165
      go_wp2
      go_roundg k1
      case measure => have := HK1.out; omega
      case rel => exact ⟨(x7_1), (wrap64 (x8_1 + 1)), (by first | rfl | (simp; done) | (simp [*]; done)), H', ⟨by have := HK1.out; omega⟩, ⟨by (with_reducible repeat (first | apply Kd.R_alloc | apply Kd.R_drewN | apply Kd.R_drew)); exact HO_7.out⟩, ⟨by repeat (first | (with_reducible first | exact HB.out | apply below_alloc | apply pw_below_drewN | apply below_drew1) | exact HB.out)⟩⟩
    ·rw [if_neg c5] at H
     exact absurd H (by simp)
   ·rw [if_neg c4] at H
    have c4b0 : decide (x8_1 < (l0.length : Int)) = false := decide_eq_false c4
    clear c4
    obtain rfl := Option.some.inj H
    go_wp2
    go_ret
    exact ⟨_, by first | rfl | (simp [errW_none, errW_some] <;> rfl) | (simp [*, errW_none, errW_some] <;> rfl), by (with_reducible repeat (first | apply Kd.R_alloc | apply Kd.R_drewN | apply Kd.R_drew)); exact HO_7.out, by repeat (first | (with_reducible first | exact HB.out | apply below_alloc | apply pw_below_drewN | apply below_drew1) | exact HB.out)⟩

/-! ### lysimeterlaw18_MergeRange: function 9 -/
def lysimeterlaw18_MergeRange.Good (k : Nat) (l0 : List S54) (a1 a2 a3_0 a3_1 : Int) : Prop :=
  ∃ x y m, merge_Range.f k l0 a1 a2 = some x ∧ lysimeterref16_Range.f k l0 a1 a2 = some y ∧ lysimeterref16_Merge.f k [l0, [⟨a3_0, a3_1⟩]] = some m ∧
    lysimeterref11_SameSamples.f k x y = some true ∧ lysimeterref11_SameSamples.f k (Go.Proofs.Ytjilnpbgclnecac.XMg.mrg merge_Samples.key (l0 ++ [⟨a3_0, a3_1⟩])) m = some true ∧ lysimeterref11_SameSamples.f k l0 l0 = some true
open Classical in
noncomputable def lysimeterlaw18_MergeRange.f (k : Nat) (l0 : List S54) (a1 : Int) (a2 : Int) (a3_0 : Int) (a3_1 : Int) : Option Bool :=
  if lysimeterlaw18_alive.f = some true ∧ l0.length < 9223372036854775807 then
    (if l0.length > 1000 then some true else (if lysimeterlaw18_MergeRange.Good k l0 a1 a2 a3_0 a3_1 then some true else none))
  else none
theorem lysimeterlaw18_MergeRange.mono (l0 : List S54) (a1 a2 a3_0 a3_1 : Int) : ∀ k, LeO (lysimeterlaw18_MergeRange.f k l0 a1 a2 a3_0 a3_1) (lysimeterlaw18_MergeRange.f (k + 1) l0 a1 a2 a3_0 a3_1) := by
  intro k r h
  unfold lysimeterlaw18_MergeRange.f at h ⊢
  split at h
  case isFalse => cases h
  rename_i h0
  rw [if_pos h0]
  split at h
  · rename_i h1
    rw [if_pos h1]
    exact h
  · rename_i h1
    rw [if_neg h1]
    split at h
    case isFalse => cases h
    rename_i h2
    obtain ⟨x, y, m, e1, e2, e3, e4, e5, e6⟩ := h2
    rw [if_pos ⟨x, y, m, merge_Range.mono _ _ _ k _ e1, lysimeterref16_Range.mono _ _ _ k _ e2, lysimeterref16_Merge.mono _ k _ e3, lysimeterref11_SameSamples.mono _ _ k _ e4, lysimeterref11_SameSamples.mono _ _ k _ e5, lysimeterref11_SameSamples.mono _ _ k _ e6⟩]
    exact h
-- WALK
section
open Go.Proofs.Ytjilnpbgclnecac.XH Go.Proofs.Ytjilnpbgclnecac.XMg
attribute [local go_sem high] eqA54
theorem lysimeterlaw18_MergeRange.two40 (k : Nat) {W : World} {A B : Option Addr} {ca cb : Nat} {x y m : List S54} (hx : Kd.C k54 W A x.length x) (hxc : x.length ≤ ca) (hy : Kd.C k54 W B y.length y) (hyc : y.length ≤ cb) (hm : lysimeterref16_Merge.f k [x, y] = some m) :
    Calls Try.prog 40 #[.slice (some ⟨W.heap.size, 0, none⟩) 2 2] (W.alloc (.cells #[.slice A x.length ca, .slice B y.length cb] 60)) fun e w' => ∃ (A' : Option Addr) (c' : Nat), e = .returned (.slice A' m.length c') ∧ Kd.C k54 w' A' m.length m ∧ m.length ≤ c' ∧ Below W.heap.size W w' := by
  have hC := merge_Put.litC (W := W) (cs := #[.slice A x.length ca, .slice B y.length cb]) (xs := [x, y]) rfl (by simp) (fun j z hj => by
    match j with
    | 0 => have e := Option.some.inj hj; subst e; exact ⟨A, ca, rfl, hxc, hx⟩
    | 1 => have e := Option.some.inj hj; subst e; exact ⟨B, cb, rfl, hyc, hy⟩
    | j + 2 => simp at hj)
  refine (lysimeterref16_Merge.calls k _ 2 [x, y] m _ hC (by simp) hm).mono ?_
  rintro e w' ⟨v, rfl, ho, hb⟩
  obtain ⟨A', c', rfl⟩ := Kd.R_slice ho
  obtain ⟨_, h3, h4⟩ := Kd.R_reads' ho
  exact ⟨A', c', rfl, h4, h3, Below.trans (below_alloc (Below.refl _ _) _) (hb.mono (by simp))⟩
theorem lysimeterlaw18_MergeRange.rd_snoc (l : List S54) (x : S54) : rd_T54 (l ++ [x]) (l.length : Int) = x := by unfold rd_T54; simp
set_option maxHeartbeats 8000000 in
set_option maxRecDepth 100000 in
theorem lysimeterlaw18_MergeRange.calls (k : Nat) (A0 : Option Addr) (c0 : Nat) (l0 : List S54) (a1 : Int) (a2 : Int) (a3_0 : Int) (a3_1 : Int) (r : Bool) (w : World) (hr0 : Kd.C k54 w A0 l0.length l0) (hc0 : l0.length ≤ c0) (hr_ : r = true) (h : lysimeterlaw18_MergeRange.f k l0 a1 a2 a3_0 a3_1 = some r) :
    Calls Try.prog 9 #[.slice A0 l0.length c0, .int .i64 a1, .int .i64 a2, .agg #[.int .i64 a3_0, .int .i64 a3_1]] w fun e w' => e = .returned (.bool r) ∧ Below w.heap.size w w' := by
  subst hr_
  unfold lysimeterlaw18_MergeRange.f at h
  split at h
  case isFalse => cases h
  rename_i h0
  obtain ⟨hal, hl0⟩ := h0
  have HAL := Aside0.mk (fun W => lysimeterlaw18_alive.calls true W hal)
  have HC0 := Aside0.mk hr0
  have HN0 := Aside0.mk hc0
  have hbk : (w.alloc (.cells #[.int .i64 a3_0, .int .i64 a3_1] 54)).heap[w.heap.size]? = some (.cells #[.int .i64 a3_0, .int .i64 a3_1] 54 (0, 0)) := blk_new _ _
  have HBK := Aside0.mk hbk
  clear hal hr0 hc0 hbk
  split at h
  · rename_i hbig
    have hb : (1000 : Int) < (l0.length : Int) := by omega
    have hd : decide ((1000 : Int) < (l0.length : Int)) = true := decide_eq_true hb
    clear h hbig
    go_enter Try.func9, Try.ntmps9
    go_wp2_with (go_at_call 35; (with_reducible refine (HAL.out _).mono ?_); rintro e W0 ⟨rfl, hb0⟩; have HB0 := Aside0.mk hb0; clear hb0)
    go_ret
    exact ⟨rfl, Below.trans (below_alloc (Below.refl _ _) _) (HB0.out.mono (by simp))⟩
  · rename_i hbig
    split at h
    case isFalse => cases h
    rename_i hs
    clear h
    obtain ⟨x, y, m, e1, e2, e3, e4, e5, e6⟩ := hs
    have HM := Aside0.mk e3
    have HS4 := Aside0.mk e4
    have HS5 := Aside0.mk e5
    have HS6 := Aside0.mk e6
    have hb : ¬ (1000 : Int) < (l0.length : Int) := by omega
    have hd : decide ((1000 : Int) < (l0.length : Int)) = false := decide_eq_false hb
    have HLN := Aside0.mk (show l0.length ≤ 1000 by omega)
    have R1 := Aside0.mk (fun W A c h0 hc => merge_Range.calls k A c l0 a1 a2 x W h0 hc e1)
    have R2 := Aside0.mk (fun W A c h0 hc => lysimeterref16_Range.calls k A c l0 a1 a2 y W h0 hc e2)
    clear hbig e1 e2 e3 e4 e5 e6 hl0
    go_enter Try.func9, Try.ntmps9
    go_upto_region 4 with (go_at_call 35; (with_reducible refine (HAL.out _).mono ?_); rintro e W0 ⟨rfl, hb0⟩; have HB00 := Aside0.mk hb0; clear hb0)
    have HB0 := Aside0.mk (show Below w.heap.size w W0 from Below.trans (below_alloc (Below.refl _ _) _) (HB00.out.mono (by simp)))
    have HBK0 := Aside0.mk (show W0.heap[w.heap.size]? = some (.cells #[.int .i64 a3_0, .int .i64 a3_1] 54 (0, 0)) from (HB00.out.block _ (by simp)).trans HBK.out)
    obtain ⟨g, hg⟩ : ∃ g, g = w.heap.size := ⟨_, rfl⟩
    rw [← hg] at HBK0 ⊢
    have HG := Aside0.mk hg
    have HC00 := Aside0.mk (Kd.C_below HC0.out HB0.out)
    clear HB00 HBK hg
    go_upto_region 5 with (first
      | ((with_reducible refine gate_builtin (b := .append) (xs := #[.const (.slice none 0 0), .tmp 22]) rfl ?_); at_builtin; refine Kd.R_append_rows k54 (w0 := W0) W0.heap.size rfl (.const (.slice none 0 0)) (.tmp 22) 60 54 (.agg #[(.int .i64 0), (.int .i64 0)]) 16 rfl Try.underlying60 info54 rfl (by decide) (by omega) (.slice none 0 0) ([] : List S54) l0 _ _ _ (fun _ => True) (fun _ => False) rfl rfl (Kd.R_nil _ _ _ _ _) HC00.out (fun _ _ h => h) (fun _ h => h.elim) (fun _ _ => trivial) (Below.refl _ _) (Nat.le_refl _) (by have := HLN.out; simp only [List.length_nil]; omega) ?_; intro v1 w1 ho1 hb1 hg1 hn1; have HO1 := Aside0.mk ho1; have HB1 := Aside0.mk hb1; clear ho1 hb1 hg1 hn1)
      | ((with_reducible refine gate_builtin (b := .append) (xs := #[.tmp 23, .tmp 25]) rfl ?_); at_builtin; refine Kd.R_append k54 (w0 := W0) W0.heap.size rfl (.tmp 23) (.tmp 25) 60 54 (.agg #[(.int .i64 0), (.int .i64 0)]) 16 rfl Try.underlying60 info54 rfl (by decide) (by omega) v1 ([] ++ l0) ⟨-71, 0⟩ [.int .i64 (-71), .int .i64 0] (fun _ => True) (fun _ => False) rfl (by first | (go_simp; done) | (go_simp; rfl)) (k54_mkM _ _ _ _) (fun _ hk => hk.elim) (fun _ _ => trivial) HO1.out HB1.out HB1.out.size (by have := HLN.out; simp only [List.nil_append]; omega) ?_; intro v2 w2 ho2 hb2 hg2 _; have HO2 := Aside0.mk ho2; have HB2 := Aside0.mk hb2; clear ho2 hb2 hg2))
    obtain ⟨A10, c10, e10⟩ := Kd.R_slice HO2.out
    subst e10
    obtain ⟨_, h3, h4⟩ := Kd.R_reads' HO2.out
    have HBW := Aside0.mk (below_step HB0.out HB2.out)
    obtain ⟨own, hown⟩ : ∃ o, o = ([] ++ l0) ++ [(⟨-71, 0⟩ : S54)] := ⟨_, rfl⟩
    rw [← hown] at h3 h4 ⊢
    have hol : own.length = l0.length + 1 := by rw [hown]; simp
    have hct : Kd.C k54 w2 A10 l0.length l0 := by
      have := Kd.C_take (m := l0.length) h4 (by omega)
      rw [show own.take l0.length = l0 from by rw [hown, List.nil_append, List.take_left]] at this
      exact this
    obtain ⟨ad, hA, y0, y1⟩ := at_T54 h4 (l0.length : Int) (by omega) (by omega)
    subst hA
    have hrd : rd_T54 own (l0.length : Int) = ⟨-71, 0⟩ := by rw [hown]; exact lysimeterlaw18_MergeRange.rd_snoc l0 _
    rw [hrd, Int.toNat_natCast] at y0 y1
    have HY := Aside0.mk (And.intro y0 y1)
    have HCT := Aside0.mk hct
    have HNT := Aside0.mk (show l0.length ≤ c10 by omega)
    have HOL := Aside0.mk hol
    obtain ⟨i054, hi0, _, hsz0, _⟩ := info_parts info54
    have hcutn := cut_to (P := Try.prog) 60 54 .i64 Try.underlying60 hi0 (some ad) own.length c10 (l0.length : Int) (by omega) (by omega) h3
    rw [Int.toNat_natCast] at hcutn
    have HBK2 := Aside0.mk ((HB2.out.block g (blk_lt HBK0.out)).trans HBK0.out)
    clear h3 h4 hown hol hct y0 y1 hrd hi0 hsz0 HO1 HO2 HB1
    have HC02 := Aside0.mk (Kd.C_below HC0.out HBW.out)
    have z30 : (0 : Int) ≤ (l0.length : Int) := by omega
    go_upto_region 6 with (go_at_call 41; (with_reducible refine (R1.out _ _ _ HCT.out HNT.out).mono ?_); rintro e w3 ⟨v11, rfl, ho3, hb3⟩; have HO3 := Aside0.mk ho3; have HB3 := Aside0.mk hb3; clear ho3 hb3)
    obtain ⟨A11, c11, e11⟩ := Kd.R_slice HO3.out
    subst e11
    obtain ⟨_, h3, h4⟩ := Kd.R_reads' HO3.out
    have HC3 := Aside0.mk h4
    have HN3 := Aside0.mk h3
    have HBK3 := Aside0.mk ((HB3.out.block g (blk_lt HBK2.out)).trans HBK2.out)
    have HBW3 := Aside0.mk (below_step HBW.out HB3.out)
    have HC03 := Aside0.mk (Kd.C_below HC02.out HB3.out)
    have HCT3 := Aside0.mk (Kd.C_below HCT.out HB3.out)
    have HY3 := Aside0.mk (show w3.cell? (ad.add (l0.length * 2)) = some (.int .i64 (-71)) ∧ w3.cell? ⟨(ad.add (l0.length * 2)).block, (ad.add (l0.length * 2)).off + 1, none⟩ = some (.int .i64 0) from ⟨pw_cell_below HB3.out HY.out.1, pw_cell_below HB3.out HY.out.2⟩)
    clear h3 h4 HO3 HB3 HBK2 HCT HC02 HY
    have x0 : w3.cell? ⟨g, 0, none⟩ = some (.int .i64 a3_0) := (blk_cell HBK3.out 0).trans rfl
    have x1 : w3.cell? ⟨g, 1, none⟩ = some (.int .i64 a3_1) := (blk_cell HBK3.out 1).trans rfl
    obtain ⟨pm, hpm⟩ : ∃ q, q = mrg merge_Samples.key (l0 ++ [(⟨a3_0, a3_1⟩ : S54)]) := ⟨_, rfl⟩
    have HPUT := Aside0.mk (fun W A c h0 hc => merge_Put.calls A c l0 a3_0 a3_1 pm W h0 hc (by have := HLN.out; unfold merge_Put.f; rw [if_pos (by omega), hpm]))
    rw [← hpm] at HS5
    clear hpm
    have HC_a3 := HC3
    have HC_03 := HC03
    have HC_t3 := HCT3
    clear HC3 HC03 HCT3
    go_still_tail 5, (by kernel_rfl)
    change wpList _ _ _ _ _ w3.drew
    have hbd : Below w3.heap.size w3 w3.drew := below_drew (Below.refl _ _)
    have HBW4 := Aside0.mk (below_step HBW3.out hbd)
    have HBK4 := Aside0.mk ((hbd.block g (blk_lt HBK3.out)).trans HBK3.out)
    have HY4 := Aside0.mk (And.intro (pw_cell_below hbd HY3.out.1) (pw_cell_below hbd HY3.out.2))
    have HC_a4 := Aside0.mk (Kd.C_below HC_a3.out hbd)
    have HC_04 := Aside0.mk (Kd.C_below HC_03.out hbd)
    have HC_t4 := Aside0.mk (Kd.C_below HC_t3.out hbd)
    clear HBW3 HBK3 HY3 HC_a3 HC_03 HC_t3 hbd x0 x1
    generalize w3.drew = w4 at *
    go_upto_region 7 with (go_at_call 42; (with_reducible refine (HPUT.out _ _ _ HC_t4.out HNT.out).mono ?_); rintro e w5 ⟨v12, rfl, ⟨A12, c12, rfl, hC12, hc12⟩, hb5⟩; have HC_p5 := Aside0.mk hC12; have HN12 := Aside0.mk hc12; have HBW5 := Aside0.mk (below_step HBW4.out hb5); have HBK5 := Aside0.mk ((hb5.block g (blk_lt HBK4.out)).trans HBK4.out); have HY5 := Aside0.mk (And.intro (pw_cell_below hb5 HY4.out.1) (pw_cell_below hb5 HY4.out.2)); have HC_a5 := Aside0.mk (Kd.C_below HC_a4.out hb5); have HC_05 := Aside0.mk (Kd.C_below HC_04.out hb5); have HC_t5 := Aside0.mk (Kd.C_below HC_t4.out hb5); clear hC12 hc12 hb5)
    clear HBW4 HBK4 HY4 HC_a4 HC_04 HC_t4
    have hol2 : l0.length < own.length := by have := HOL.out; omega
    go_wp2_with (first
      | (go_at_call 43; (with_reducible refine (R2.out _ _ _ HC_05.out HN0.out).mono ?_); rintro e w6 ⟨v44, rfl, ho6, hb6⟩; obtain ⟨A44, c44, e44⟩ := Kd.R_slice ho6; subst e44; have HC_y6 := Aside0.mk (Kd.R_reads' ho6).2.2; have HN44 := Aside0.mk (Kd.R_reads' ho6).2.1; have HBW6 := Aside0.mk (below_step HBW5.out hb6); have HBK6 := Aside0.mk ((hb6.block g (blk_lt HBK5.out)).trans HBK5.out); have HY6 := Aside0.mk (And.intro (pw_cell_below hb6 HY5.out.1) (pw_cell_below hb6 HY5.out.2)); have HC_a6 := Aside0.mk (Kd.C_below HC_a5.out hb6); have HC_06 := Aside0.mk (Kd.C_below HC_05.out hb6); have HC_t6 := Aside0.mk (Kd.C_below HC_t5.out hb6); have HC_p6 := Aside0.mk (Kd.C_below HC_p5.out hb6); clear ho6 hb6)
      | (go_at_call 39; (with_reducible refine (lysimeterref11_SameSamples.calls k A11 c11 x A44 c44 y true _ HC_a6.out HN3.out HC_y6.out HN44.out HS4.out).mono ?_); rintro e w7 ⟨rfl, n7, hw7⟩; have hb7 : Below w6.heap.size w6 w7 := (by rw [hw7]; exact pw_below_drewN (Below.refl _ _) _); clear hw7; have HBW7 := Aside0.mk (below_step HBW6.out hb7); have HBK7 := Aside0.mk ((hb7.block g (blk_lt HBK6.out)).trans HBK6.out); have HY7 := Aside0.mk (And.intro (pw_cell_below hb7 HY6.out.1) (pw_cell_below hb7 HY6.out.2)); have HC_07 := Aside0.mk (Kd.C_below HC_06.out hb7); have HC_t7 := Aside0.mk (Kd.C_below HC_t6.out hb7); have HC_p7 := Aside0.mk (Kd.C_below HC_p6.out hb7); have x0 : w7.cell? ⟨g, 0, none⟩ = some (.int .i64 a3_0) := (blk_cell HBK7.out 0).trans rfl; have x1 : w7.cell? ⟨g, 1, none⟩ = some (.int .i64 a3_1) := (blk_cell HBK7.out 1).trans rfl; clear hb7)
      | (go_at_call 40; have ht := lysimeterlaw18_MergeRange.two40 k (W := w7.alloc (.cells #[.int .i64 a3_0, .int .i64 a3_1] 54)) (cb := 1) (Kd.C_alloc HC_07.out _) HN0.out (merge_Put.oneC w7 ⟨a3_0, a3_1⟩) (by simp) HM.out; simp only [World.size_alloc, List.length_singleton] at ht; (with_reducible refine ht.mono ?_); clear ht; rintro e w8 ⟨A52, c52, rfl, hC52, hc52, hb80⟩; have hb8 : Below w7.heap.size w7 w8 := Below.trans (below_alloc (Below.refl _ _) _) (hb80.mono (by simp)); have HC_m8 := Aside0.mk hC52; have HN52 := Aside0.mk hc52; have HBW8 := Aside0.mk (below_step HBW7.out hb8); have HY8 := Aside0.mk (And.intro (pw_cell_below hb8 HY7.out.1) (pw_cell_below hb8 HY7.out.2)); have HC_08 := Aside0.mk (Kd.C_below HC_07.out hb8); have HC_t8 := Aside0.mk (Kd.C_below HC_t7.out hb8); have HC_p8 := Aside0.mk (Kd.C_below HC_p7.out hb8); clear hC52 hc52 hb80 hb8)
      | (go_at_call 39; (with_reducible refine (lysimeterref11_SameSamples.calls k A12 c12 pm A52 c52 m true _ HC_p8.out HN12.out HC_m8.out HN52.out HS5.out).mono ?_); rintro e w9 ⟨rfl, n9, hw9⟩; have hb9 : Below w8.heap.size w8 w9 := (by rw [hw9]; exact pw_below_drewN (Below.refl _ _) _); clear hw9; have HBW9 := Aside0.mk (below_step HBW8.out hb9); have HY9 := Aside0.mk (And.intro (pw_cell_below hb9 HY8.out.1) (pw_cell_below hb9 HY8.out.2)); have HC_09 := Aside0.mk (Kd.C_below HC_08.out hb9); have HC_t9 := Aside0.mk (Kd.C_below HC_t8.out hb9); clear hb9)
      | (go_at_call 39; (with_reducible refine (lysimeterref11_SameSamples.calls k (some ad) c10 l0 A0 c0 l0 true _ HC_t9.out HNT.out HC_09.out HN0.out HS6.out).mono ?_); rintro e w10 ⟨rfl, n10, hw10⟩; have hb10 : Below w9.heap.size w9 w10 := (by rw [hw10]; exact pw_below_drewN (Below.refl _ _) _); clear hw10; have HBW10 := Aside0.mk (below_step HBW9.out hb10); have HY10 := Aside0.mk (And.intro (pw_cell_below hb10 HY9.out.1) (pw_cell_below hb10 HY9.out.2)); have y0 := HY10.out.1; have y1 := HY10.out.2; clear hb10))
    go_ret
    exact ⟨rfl, HBW10.out⟩
end

/-- The one pure statement of lysimeterlaw18_MergeRange. -/
def lysimeterlaw18_MergeRange.Pure : Prop := ∀ (l0 : List (S54)) (a1 : Int) (a2 : Int) (a3_0 : Int) (a3_1 : Int), (l0.length * 16 ≤ reachBytes ∧ ∀ y0_ ∈ l0, ((Lit.int .i64 y0_.f0).wf = true ∧ (Lit.int .i64 y0_.f1).wf = true)) → (Lit.int .i64 a1).wf = true → (Lit.int .i64 a2).wf = true → (Lit.int .i64 a3_0).wf = true → (Lit.int .i64 a3_1).wf = true → ∃ k, lysimeterlaw18_MergeRange.f k l0 a1 a2 a3_0 a3_1 = some true
theorem lysimeterlaw18_MergeRange.walk (P : lysimeterlaw18_MergeRange.Pure) (A0 : Option Addr) (c0 : Nat) (l0 : List (S54)) (a1 : Int) (a2 : Int) (a3_0 : Int) (a3_1 : Int) (w : World) (hr0 : Kd.C k54 w A0 l0.length l0) (hc0 : l0.length ≤ c0) (g0 : (l0.length * 16 ≤ reachBytes ∧ ∀ y0_ ∈ l0, ((Lit.int .i64 y0_.f0).wf = true ∧ (Lit.int .i64 y0_.f1).wf = true))) (w1 : (Lit.int .i64 a1).wf = true) (w2 : (Lit.int .i64 a2).wf = true) (g3_0 : (Lit.int .i64 a3_0).wf = true) (g3_1 : (Lit.int .i64 a3_1).wf = true) :
    Calls Try.prog 9 #[.slice A0 l0.length c0, .int .i64 a1, .int .i64 a2, .agg #[.int .i64 a3_0, .int .i64 a3_1]] w fun e w' => e = .returned (.bool true) ∧ Below w.heap.size w w' := by
  obtain ⟨k, h⟩ := P l0 a1 a2 a3_0 a3_1 g0 w1 w2 g3_0 g3_1
  refine (lysimeterlaw18_MergeRange.calls k _ _ l0 a1 a2 a3_0 a3_1 true w hr0 hc0 rfl h).mono ?_
  rintro e w' ⟨rfl, hd⟩
  exact ⟨rfl, hd⟩

end Go.Proofs.Ytjilnpbgclnecac.PMergeRange
