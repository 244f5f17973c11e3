/- Written by a program of this session out of the translation: for Go functions Lean functions of the same answers, and the proof that the calls come to these answers. -/
import Derived.Test.YtjilnpbgclnecacXMerge
import Derived.Test.YtjilnpbgclnecacXHand
import Derived.Test.YtjilnpbgclnecacPMergeTwicex0
import Derived.Test.YtjilnpbgclnecacPMergeTwicex1
import Derived.Test.YtjilnpbgclnecacPMergeTwicex3
namespace Go.Proofs.Ytjilnpbgclnecac.PMergeTwice
open Go.RowKit Go.Proofs.YtjilnpbgclnecacW.PrintWords Go.Proofs.YtjilnpbgclnecacW.PrintLast Go.Proofs.YtjilnpbgclnecacW.PrintMore Go.Proofs.Ytjilnpbgclnecac.XB
attribute [local go_sem] sg_u8 sg_u16 sg_u32 sg_u64 mx_u8 mx_u16 mx_u32 mx_u64
attribute [local go_sem] max2_int min2_int max_two min_two max_three min_three max_four min_four   -- for this text's walks alone
set_option linter.unusedVariables false
set_option linter.unusedSimpArgs false

attribute [local go_sem high] eqA54
/-! ### lysimeterlaw18_alive: function 35 -/
def lysimeterlaw18_alive.f  : Option (Bool) := (merge_Samples.f (([(([(⟨1, 1⟩ : S54), (⟨2, 2⟩ : S54)] : List (S54))), (([(⟨2, 3⟩ : S54)] : List (S54)))] : List (List (S54))))).bind fun t110 => (if (t110.length : Int) = 2 then (if 0 < (t110.length : Int) then (if (((rd_T54 t110 0).f0) == 1 && (((rd_T54 t110 0).f1) == 1)) = true then (if 1 < (t110.length : Int) then (some (((rd_T54 t110 1).f0) == 2 && (((rd_T54 t110 1).f1) == 3))) else (none)) else (some false)) else (none)) else (some false))
set_option maxHeartbeats 8000000 in
set_option maxRecDepth 100000 in
theorem lysimeterlaw18_alive.calls  (r : Bool) (w : World) (h : lysimeterlaw18_alive.f  = some r) :
  Calls Try.prog 35 #[] w fun e w' => e = .returned (.bool r) ∧ Below w.heap.size w w' := by
 have hu54 := Try.underlying54
 have HB := Aside0.mk (Below.refl w.heap.size w)
 have H : ((merge_Samples.f (([(([(⟨1, 1⟩ : S54), (⟨2, 2⟩ : S54)] : List (S54))), (([(⟨2, 3⟩ : S54)] : List (S54)))] : List (List (S54))))).bind fun t110 => (if (t110.length : Int) = 2 then (if 0 < (t110.length : Int) then (if (((rd_T54 t110 0).f0) == 1 && (((rd_T54 t110 0).f1) == 1)) = true then (if 1 < (t110.length : Int) then (some (((rd_T54 t110 1).f0) == 2 && (((rd_T54 t110 1).f1) == 3))) else (none)) else (some false)) else (none)) else (some false))) = some r := h
 clear h
 obtain ⟨y101, hy101⟩ : ∃ y_ : List (S54), y_ = (([(⟨1, 1⟩ : S54), (⟨2, 2⟩ : S54)] : List (S54))) := ⟨_, rfl⟩
 replace H : ((merge_Samples.f (([y101, (([(⟨2, 3⟩ : S54)] : List (S54)))] : List (List (S54))))).bind fun t110 => (if (t110.length : Int) = 2 then (if 0 < (t110.length : Int) then (if (((rd_T54 t110 0).f0) == 1 && (((rd_T54 t110 0).f1) == 1)) = true then (if 1 < (t110.length : Int) then (some (((rd_T54 t110 1).f0) == 2 && (((rd_T54 t110 1).f1) == 3))) else (none)) else (some false)) else (none)) else (some false))) = some r := by first | (rw [hy101]; with_reducible exact H) | (have H2_ := (Option.bind_some _ _).symm.trans H; rw [hy101]; with_reducible exact H2_) | (have H2_ := (Option.bind_some _ _).symm.trans H; with_reducible exact H2_) | with_reducible exact H | (rw [hy101]; exact H) | exact H
 have Ny101 := Aside0.mk hy101
 clear hy101
 obtain ⟨y104, hy104⟩ : ∃ y_ : List (S54), y_ = (([(⟨2, 3⟩ : S54)] : List (S54))) := ⟨_, rfl⟩
 replace H : ((merge_Samples.f (([y101, y104] : List (List (S54))))).bind fun t110 => (if (t110.length : Int) = 2 then (if 0 < (t110.length : Int) then (if (((rd_T54 t110 0).f0) == 1 && (((rd_T54 t110 0).f1) == 1)) = true then (if 1 < (t110.length : Int) then (some (((rd_T54 t110 1).f0) == 2 && (((rd_T54 t110 1).f1) == 3))) else (none)) else (some false)) else (none)) else (some false))) = some r := by first | (rw [hy104]; with_reducible exact H) | (have H2_ := (Option.bind_some _ _).symm.trans H; rw [hy104]; with_reducible exact H2_) | (have H2_ := (Option.bind_some _ _).symm.trans H; with_reducible exact H2_) | with_reducible exact H | (rw [hy104]; exact H) | exact H
 have Ny104 := Aside0.mk hy104
 clear hy104
 obtain ⟨y107, hy107⟩ : ∃ y_ : List (List (S54)), y_ = (([y101, y104] : List (List (S54)))) := ⟨_, rfl⟩
 replace H : ((merge_Samples.f y107).bind fun t110 => (if (t110.length : Int) = 2 then (if 0 < (t110.length : Int) then (if (((rd_T54 t110 0).f0) == 1 && (((rd_T54 t110 0).f1) == 1)) = true then (if 1 < (t110.length : Int) then (some (((rd_T54 t110 1).f0) == 2 && (((rd_T54 t110 1).f1) == 3))) else (none)) else (some false)) else (none)) else (some false))) = some r := by first | (rw [hy107]; with_reducible exact H) | (have H2_ := (Option.bind_some _ _).symm.trans H; rw [hy107]; with_reducible exact H2_) | (have H2_ := (Option.bind_some _ _).symm.trans H; with_reducible exact H2_) | with_reducible exact H | (rw [hy107]; exact H) | exact H
 have Ny107 := Aside0.mk hy107
 clear hy107
 replace H := Option.bind_eq_some_iff.mp H
 obtain ⟨t110, A10, H⟩ := H
 replace H : (if (t110.length : Int) = 2 then (if 0 < (t110.length : Int) then (if (((rd_T54 t110 0).f0) == 1 && (((rd_T54 t110 0).f1) == 1)) = true then (if 1 < (t110.length : Int) then (some (((rd_T54 t110 1).f0) == 2 && (((rd_T54 t110 1).f1) == 3))) else (none)) else (some false)) else (none)) else (some false)) = some r := H
 have A1 := Aside0.mk A10
 clear A10
 by_cases c2 : (t110.length : Int) = 2
 ·rw [if_pos c2] at H
  have c2b0 : ((t110.length : Int) == 2) = true := beq_iff_eq.mpr c2
  have c2b1 : ((t110.length : Int) != 2) = false := bne_eq_false_iff_eq.mpr c2
  clear c2
  by_cases c3 : 0 < (t110.length : Int)
  ·rw [if_pos c3] at H
   have c3b0 : decide (0 < (t110.length : Int)) = true := decide_eq_true c3
   have c3b1 : decide (0 < t110.length) = true := decide_eq_true (by omega)
   clear c3
   by_cases c4 : (((rd_T54 t110 0).f0) == 1 && (((rd_T54 t110 0).f1) == 1)) = true
   ·rw [if_pos c4] at H
    have c4b0 : (((rd_T54 t110 0).f0) == 1 && (((rd_T54 t110 0).f1) == 1)) = true := c4
    (try (have c4b1 : decide (((rd_T54 t110 0).f0) = 1 && (((rd_T54 t110 0).f1) == 1)) = true := by simpa using c4))
    (try (have c4b2 : (((rd_T54 t110 0).f0) == 1 && (((rd_T54 t110 0).f1) == 1)) = true := by simpa using c4))
    clear c4
    by_cases c5 : 1 < (t110.length : Int)
    ·rw [if_pos c5] at H
     have c5b0 : decide (1 < (t110.length : Int)) = true := decide_eq_true c5
     have c5b1 : decide (1 < t110.length) = true := decide_eq_true (by omega)
     clear c5
     obtain rfl := Option.some.inj H
     go_enter Try.func35, Try.ntmps35
     go_wp2_with (first | ((with_reducible refine gate_dst (N := 4) rfl ?_); refine Kd.R_lit k54 _ 54 ?hg (N := 4) ?hd (xs := ([(⟨1, 1⟩ : S54), (⟨2, 2⟩ : S54)] : List (S54))) (inner := [.int .i64 1, .int .i64 1, .int .i64 2, .int .i64 2]) (ok := fun _ => True) (okp := fun _ => True) ?hr ?hp (fun _ hk => hk) trivial (Below.refl _ _) (Nat.le_refl _) (by simp) ?_; (case hd => rfl); (case hg => rfl); (case hr => first | (go_simp; done) | (go_simp; rfl)); (case hp => exact (Reps.c2 (show Kd.M k54 _ _ _ (⟨1, 1⟩ : S54) [.int .i64 1, .int .i64 1] from (k54_mkM _ _ _ (⟨1, 1⟩ : S54) )) (Reps.c2 (show Kd.M k54 _ _ _ (⟨2, 2⟩ : S54) [.int .i64 2, .int .i64 2] from (k54_mkM _ _ _ (⟨2, 2⟩ : S54) )) (Reps.none _ _)))); intro v102 w6 ho7 hb hg_ hnew_; clear hg_ hnew_; (first | rw [← Ny101.out] at ho7 | (simp only [Int.reduceToNat] at ho7; rw [← Ny101.out] at ho7)); have n0_ := Aside0.mk (Kd.R_lower ho7 (below_size (by repeat (first | (with_reducible first | exact HB.out | apply below_alloc | apply pw_below_drewN | apply below_drew1) | exact HB.out)))); have n1_ := Aside0.mk (below_step (by repeat (first | (with_reducible first | exact HB.out | apply below_alloc | apply pw_below_drewN | apply below_drew1) | exact HB.out)) hb); clear HB; have HO103 := n0_; have HB := n1_; clear n0_ n1_; clear hb ho7) | ((with_reducible refine gate_dst (N := 6) rfl ?_); refine Kd.R_lit k54 _ 54 ?hg (N := 6) ?hd (xs := ([(⟨2, 3⟩ : S54)] : List (S54))) (inner := [.int .i64 2, .int .i64 3]) (ok := fun _ => True) (okp := fun _ => True) ?hr ?hp (fun _ hk => hk) trivial (Below.refl _ _) (Nat.le_refl _) (by simp) ?_; (case hd => rfl); (case hg => rfl); (case hr => first | (go_simp; done) | (go_simp; rfl)); (case hp => exact (Reps.c2 (show Kd.M k54 _ _ _ (⟨2, 3⟩ : S54) [.int .i64 2, .int .i64 3] from (k54_mkM _ _ _ (⟨2, 3⟩ : S54) )) (Reps.none _ _))); intro v105 w8 ho9 hb hg_ hnew_; clear hg_ hnew_; (first | rw [← Ny104.out] at ho9 | (simp only [Int.reduceToNat] at ho9; rw [← Ny104.out] at ho9)); have n0_ := Aside0.mk (Kd.R_elder' (by (with_reducible repeat (first | apply Kd.R_alloc | apply Kd.R_drewN | apply Kd.R_drew)); exact HO103.out) (Kd.R_base ho9) hb); have n1_ := Aside0.mk (Kd.R_lower (Kd.R_new' ho9 (Kd.R_lt (by (with_reducible repeat (first | apply Kd.R_alloc | apply Kd.R_drewN | apply Kd.R_drew)); exact HO103.out))) (below_size (by repeat (first | (with_reducible first | exact HB.out | apply below_alloc | apply pw_below_drewN | apply below_drew1) | exact HB.out)))); have n2_ := Aside0.mk (below_step (by repeat (first | (with_reducible first | exact HB.out | apply below_alloc | apply pw_below_drewN | apply below_drew1) | exact HB.out)) hb); clear HO103; clear HB; have HO103 := n0_; have HO106 := n1_; have HB := n2_; clear n0_ n1_ n2_; clear hb ho9; obtain ⟨Ao10, co10, eo10⟩ := Kd.R_slice HO103.out; subst eo10; obtain ⟨Ao11, co11, eo11⟩ := Kd.R_slice HO106.out; subst eo11) | ((with_reducible refine gate_dst (N := 7) rfl ?_); refine Kd.N_lit (Kd.slice 54 k54) _ 60 ?hg (N' := 7) ?hd (xs := ([y101, y104] : List (List (S54)))) (inner := [.slice Ao10 y101.length co10, .slice Ao11 y104.length co11]) (ok := (fun _ => True)) (okp := (fun _ => True)) ?hr ?hp (fun _ hk => hk) ((show ∀ k_, w8.heap.size ≤ k_ → (fun _ => True) k_ from fun k_ hk => trivial) _ (Nat.le_refl _)) (Below.refl _ _) (Nat.le_refl _) (by simp) ?_; (case hd => rfl); (case hg => rfl); (case hr => first | (go_simp; done) | (go_simp; rfl)); (case hp => exact (Reps.one (show Kd.FK (Kd.slice 54 k54) _ _ y101 [.slice Ao10 y101.length co10] from (Kd.FK_slice_mk (Kd.R_reads' (Kd.R_mono (ok' := (fun _ => True)) (HO103.out) (fun k_ hk => trivial))).2.1 (Kd.R_F (Kd.R_mono (ok' := (fun _ => True)) (HO103.out) (fun k_ hk => trivial))))) (Reps.one (show Kd.FK (Kd.slice 54 k54) _ _ y104 [.slice Ao11 y104.length co11] from (Kd.FK_slice_mk (Kd.R_reads' (Kd.R_mono (ok' := (fun _ => True)) (HO106.out) (fun k_ hk => trivial))).2.1 (Kd.R_F (Kd.R_mono (ok' := (fun _ => True)) (HO106.out) (fun k_ hk => trivial))))) (Reps.none _ _)))); intro v108 w12 ho13 hb hg_ hnew_; clear hg_ hnew_; (first | rw [← Ny107.out] at ho13 | (simp only [Int.reduceToNat] at ho13; rw [← Ny107.out] at ho13)); have n0_ := Aside0.mk (Kd.N_lower ho13 (below_size (by repeat (first | (with_reducible first | exact HB.out | apply below_alloc | apply pw_below_drewN | apply below_drew1) | exact HB.out)))); have n1_ := Aside0.mk (below_step (by repeat (first | (with_reducible first | exact HB.out | apply below_alloc | apply pw_below_drewN | apply below_drew1) | exact HB.out)) hb); clear HB; clear HO103; clear HO106; have HO109 := n0_; have HB := n1_; clear n0_ n1_; clear hb ho13; obtain ⟨Ao14, co14, eo14⟩ := Kd.N_slice HO109.out; subst eo14) | ((with_reducible refine gate_callee (f := 38) rfl ?_); refine goesL_ (some 8) rfl rfl Try.func38 (by kernel_rfl) rfl #[.slice Ao14 y107.length co14] rfl (by (try simp only [List.map_toArray, List.map_cons, List.map_nil]); first | done | rfl | (simp only [List.length_drop, List.length_take]; rfl)) ?_; (with_reducible refine (merge_Samples.calls _ _ y107 t110 _ ?side1 ?side2 A1.out).mono ?_); (case side1 => repeat (first | exact (Kd.N_reads' HO109.out).2.2 | (with_reducible refine Kd.C_alloc ?_ _) | (with_reducible refine Kd.C_drewN ?_ _) | (with_reducible refine Kd.C_drew ?_))); (case side2 => exact (Kd.N_reads' HO109.out).2.1); rintro e w15 ⟨v111, rfl, ho0, hb⟩; refine ⟨_, rfl, ?_⟩; have n0_ := Aside0.mk (Kd.N_elder' (by (with_reducible repeat (first | apply Kd.N_alloc | apply Kd.N_drewN | apply Kd.N_drew)); exact HO109.out) (Kd.R_base ho0) hb); have n1_ := Aside0.mk (Kd.R_lower ho0 (below_size (by repeat (first | (with_reducible first | exact HB.out | apply below_alloc | apply pw_below_drewN | apply below_drew1) | exact HB.out)))); have n2_ := Aside0.mk (below_step (by repeat (first | (with_reducible first | exact HB.out | apply below_alloc | apply pw_below_drewN | apply below_drew1) | exact HB.out)) hb); clear HO109; clear HB; have HO109 := n0_; have HO112 := n1_; have HB := n2_; clear n0_ n1_ n2_; (try clear hb); (try clear hb2); (try clear hk); (try clear hi); (try clear ho0); obtain ⟨Ao16, co16, eo16⟩ := Kd.R_slice HO112.out; subst eo16; have p113 : 0 ≤ (0 : Int) := (by omega); have q113 : 0 < (t110.length : Int) := of_decide_eq_true (by first | (with_reducible assumption) | assumption); obtain ⟨ad113, e113, hx113_0, hx113_1⟩ := at_T54 (Kd.R_reads' HO112.out).2.2 0 p113 q113; cases e113; have qi113 : (0 < t110.length) = True := eq_true (by omega); (try rw [show ((0 : Int)).toNat = 0 from rfl] at hx113_0); (try rw [show 0 * 2 = 0 from rfl] at hx113_0); (try rw [Addr.add_zero'] at hx113_0); (try rw [show ((0 : Int)).toNat = 0 from rfl] at hx113_1); (try rw [show 0 * 2 = 0 from rfl] at hx113_1); (try rw [Addr.add_zero'] at hx113_1); replace p113 := eq_true p113; replace q113 := eq_true q113; have p114 : 0 ≤ (1 : Int) := (by omega); have q114 : 1 < (t110.length : Int) := of_decide_eq_true (by first | (with_reducible assumption) | assumption); obtain ⟨ad114, e114, hx114_0, hx114_1⟩ := at_T54 (Kd.R_reads' HO112.out).2.2 1 p114 q114; obtain rfl : ad113 = ad114 := (by injection e114); (try simp only [show (1 : Int).toNat = 1 from rfl, Nat.reduceMul, Nat.reduceEqDiff, Go.Addr.add, ↓reduceIte] at hx114_0); (try simp only [show (1 : Int).toNat = 1 from rfl, Nat.reduceMul, Nat.reduceEqDiff, Go.Addr.add, ↓reduceIte] at hx114_1); have qi114 : (1 < t110.length) = True := eq_true (by omega); (try rw [show ((1 : Int)).toNat = 1 from rfl] at hx114_0); (try rw [show 1 * 2 = 2 from rfl] at hx114_0); (try rw [show ((1 : Int)).toNat = 1 from rfl] at hx114_1); (try rw [show 1 * 2 = 2 from rfl] at hx114_1); replace p114 := eq_true p114; replace q114 := eq_true q114))
     go_ret
     exact ⟨by first | rfl | (simp [errW_none, errW_some] <;> rfl) | (simp [*, errW_none, errW_some] <;> rfl), by repeat (first | (with_reducible first | exact HB.out | apply below_alloc | apply pw_below_drewN | apply below_drew1) | exact HB.out)⟩
    ·rw [if_neg c5] at H
     exact absurd H (by simp)
   ·rw [if_neg c4] at H
    have c4b0 : (((rd_T54 t110 0).f0) == 1 && (((rd_T54 t110 0).f1) == 1)) = false := by simpa using c4
    (try (have c4b1 : decide (((rd_T54 t110 0).f0) = 1 && (((rd_T54 t110 0).f1) == 1)) = false := by simpa using c4))
    (try (have c4b2 : (((rd_T54 t110 0).f0) == 1 && (((rd_T54 t110 0).f1) == 1)) = false := by simpa using c4))
    (try (have c4b3 : ¬ (((rd_T54 t110 0).f0) = 1 && (((rd_T54 t110 0).f1) == 1)) := by simpa using c4))
    clear c4
    obtain rfl := Option.some.inj H
    go_enter Try.func35, Try.ntmps35
    go_wp2_with (first | ((with_reducible refine gate_dst (N := 4) rfl ?_); refine Kd.R_lit k54 _ 54 ?hg (N := 4) ?hd (xs := ([(⟨1, 1⟩ : S54), (⟨2, 2⟩ : S54)] : List (S54))) (inner := [.int .i64 1, .int .i64 1, .int .i64 2, .int .i64 2]) (ok := fun _ => True) (okp := fun _ => True) ?hr ?hp (fun _ hk => hk) trivial (Below.refl _ _) (Nat.le_refl _) (by simp) ?_; (case hd => rfl); (case hg => rfl); (case hr => first | (go_simp; done) | (go_simp; rfl)); (case hp => exact (Reps.c2 (show Kd.M k54 _ _ _ (⟨1, 1⟩ : S54) [.int .i64 1, .int .i64 1] from (k54_mkM _ _ _ (⟨1, 1⟩ : S54) )) (Reps.c2 (show Kd.M k54 _ _ _ (⟨2, 2⟩ : S54) [.int .i64 2, .int .i64 2] from (k54_mkM _ _ _ (⟨2, 2⟩ : S54) )) (Reps.none _ _)))); intro v102 w17 ho18 hb hg_ hnew_; clear hg_ hnew_; (first | rw [← Ny101.out] at ho18 | (simp only [Int.reduceToNat] at ho18; rw [← Ny101.out] at ho18)); have n0_ := Aside0.mk (Kd.R_lower ho18 (below_size (by repeat (first | (with_reducible first | exact HB.out | apply below_alloc | apply pw_below_drewN | apply below_drew1) | exact HB.out)))); have n1_ := Aside0.mk (below_step (by repeat (first | (with_reducible first | exact HB.out | apply below_alloc | apply pw_below_drewN | apply below_drew1) | exact HB.out)) hb); clear HB; have HO103 := n0_; have HB := n1_; clear n0_ n1_; clear hb ho18) | ((with_reducible refine gate_dst (N := 6) rfl ?_); refine Kd.R_lit k54 _ 54 ?hg (N := 6) ?hd (xs := ([(⟨2, 3⟩ : S54)] : List (S54))) (inner := [.int .i64 2, .int .i64 3]) (ok := fun _ => True) (okp := fun _ => True) ?hr ?hp (fun _ hk => hk) trivial (Below.refl _ _) (Nat.le_refl _) (by simp) ?_; (case hd => rfl); (case hg => rfl); (case hr => first | (go_simp; done) | (go_simp; rfl)); (case hp => exact (Reps.c2 (show Kd.M k54 _ _ _ (⟨2, 3⟩ : S54) [.int .i64 2, .int .i64 3] from (k54_mkM _ _ _ (⟨2, 3⟩ : S54) )) (Reps.none _ _))); intro v105 w19 ho20 hb hg_ hnew_; clear hg_ hnew_; (first | rw [← Ny104.out] at ho20 | (simp only [Int.reduceToNat] at ho20; rw [← Ny104.out] at ho20)); have n0_ := Aside0.mk (Kd.R_elder' (by (with_reducible repeat (first | apply Kd.R_alloc | apply Kd.R_drewN | apply Kd.R_drew)); exact HO103.out) (Kd.R_base ho20) hb); have n1_ := Aside0.mk (Kd.R_lower (Kd.R_new' ho20 (Kd.R_lt (by (with_reducible repeat (first | apply Kd.R_alloc | apply Kd.R_drewN | apply Kd.R_drew)); exact HO103.out))) (below_size (by repeat (first | (with_reducible first | exact HB.out | apply below_alloc | apply pw_below_drewN | apply below_drew1) | exact HB.out)))); have n2_ := Aside0.mk (below_step (by repeat (first | (with_reducible first | exact HB.out | apply below_alloc | apply pw_below_drewN | apply below_drew1) | exact HB.out)) hb); clear HO103; clear HB; have HO103 := n0_; have HO106 := n1_; have HB := n2_; clear n0_ n1_ n2_; clear hb ho20; obtain ⟨Ao21, co21, eo21⟩ := Kd.R_slice HO103.out; subst eo21; obtain ⟨Ao22, co22, eo22⟩ := Kd.R_slice HO106.out; subst eo22) | ((with_reducible refine gate_dst (N := 7) rfl ?_); refine Kd.N_lit (Kd.slice 54 k54) _ 60 ?hg (N' := 7) ?hd (xs := ([y101, y104] : List (List (S54)))) (inner := [.slice Ao21 y101.length co21, .slice Ao22 y104.length co22]) (ok := (fun _ => True)) (okp := (fun _ => True)) ?hr ?hp (fun _ hk => hk) ((show ∀ k_, w19.heap.size ≤ k_ → (fun _ => True) k_ from fun k_ hk => trivial) _ (Nat.le_refl _)) (Below.refl _ _) (Nat.le_refl _) (by simp) ?_; (case hd => rfl); (case hg => rfl); (case hr => first | (go_simp; done) | (go_simp; rfl)); (case hp => exact (Reps.one (show Kd.FK (Kd.slice 54 k54) _ _ y101 [.slice Ao21 y101.length co21] from (Kd.FK_slice_mk (Kd.R_reads' (Kd.R_mono (ok' := (fun _ => True)) (HO103.out) (fun k_ hk => trivial))).2.1 (Kd.R_F (Kd.R_mono (ok' := (fun _ => True)) (HO103.out) (fun k_ hk => trivial))))) (Reps.one (show Kd.FK (Kd.slice 54 k54) _ _ y104 [.slice Ao22 y104.length co22] from (Kd.FK_slice_mk (Kd.R_reads' (Kd.R_mono (ok' := (fun _ => True)) (HO106.out) (fun k_ hk => trivial))).2.1 (Kd.R_F (Kd.R_mono (ok' := (fun _ => True)) (HO106.out) (fun k_ hk => trivial))))) (Reps.none _ _)))); intro v108 w23 ho24 hb hg_ hnew_; clear hg_ hnew_; (first | rw [← Ny107.out] at ho24 | (simp only [Int.reduceToNat] at ho24; rw [← Ny107.out] at ho24)); have n0_ := Aside0.mk (Kd.N_lower ho24 (below_size (by repeat (first | (with_reducible first | exact HB.out | apply below_alloc | apply pw_below_drewN | apply below_drew1) | exact HB.out)))); have n1_ := Aside0.mk (below_step (by repeat (first | (with_reducible first | exact HB.out | apply below_alloc | apply pw_below_drewN | apply below_drew1) | exact HB.out)) hb); clear HB; clear HO103; clear HO106; have HO109 := n0_; have HB := n1_; clear n0_ n1_; clear hb ho24; obtain ⟨Ao25, co25, eo25⟩ := Kd.N_slice HO109.out; subst eo25) | ((with_reducible refine gate_callee (f := 38) rfl ?_); refine goesL_ (some 8) rfl rfl Try.func38 (by kernel_rfl) rfl #[.slice Ao25 y107.length co25] rfl (by (try simp only [List.map_toArray, List.map_cons, List.map_nil]); first | done | rfl | (simp only [List.length_drop, List.length_take]; rfl)) ?_; (with_reducible refine (merge_Samples.calls _ _ y107 t110 _ ?side1 ?side2 A1.out).mono ?_); (case side1 => repeat (first | exact (Kd.N_reads' HO109.out).2.2 | (with_reducible refine Kd.C_alloc ?_ _) | (with_reducible refine Kd.C_drewN ?_ _) | (with_reducible refine Kd.C_drew ?_))); (case side2 => exact (Kd.N_reads' HO109.out).2.1); rintro e w26 ⟨v111, rfl, ho0, hb⟩; refine ⟨_, rfl, ?_⟩; have n0_ := Aside0.mk (Kd.N_elder' (by (with_reducible repeat (first | apply Kd.N_alloc | apply Kd.N_drewN | apply Kd.N_drew)); exact HO109.out) (Kd.R_base ho0) hb); have n1_ := Aside0.mk (Kd.R_lower ho0 (below_size (by repeat (first | (with_reducible first | exact HB.out | apply below_alloc | apply pw_below_drewN | apply below_drew1) | exact HB.out)))); have n2_ := Aside0.mk (below_step (by repeat (first | (with_reducible first | exact HB.out | apply below_alloc | apply pw_below_drewN | apply below_drew1) | exact HB.out)) hb); clear HO109; clear HB; have HO109 := n0_; have HO112 := n1_; have HB := n2_; clear n0_ n1_ n2_; (try clear hb); (try clear hb2); (try clear hk); (try clear hi); (try clear ho0); obtain ⟨Ao27, co27, eo27⟩ := Kd.R_slice HO112.out; subst eo27; have p113 : 0 ≤ (0 : Int) := (by omega); have q113 : 0 < (t110.length : Int) := of_decide_eq_true (by first | (with_reducible assumption) | assumption); obtain ⟨ad113, e113, hx113_0, hx113_1⟩ := at_T54 (Kd.R_reads' HO112.out).2.2 0 p113 q113; cases e113; have qi113 : (0 < t110.length) = True := eq_true (by omega); (try rw [show ((0 : Int)).toNat = 0 from rfl] at hx113_0); (try rw [show 0 * 2 = 0 from rfl] at hx113_0); (try rw [Addr.add_zero'] at hx113_0); (try rw [show ((0 : Int)).toNat = 0 from rfl] at hx113_1); (try rw [show 0 * 2 = 0 from rfl] at hx113_1); (try rw [Addr.add_zero'] at hx113_1); replace p113 := eq_true p113; replace q113 := eq_true q113))
    go_ret
    exact ⟨by first | rfl | (simp [errW_none, errW_some] <;> rfl) | (simp [*, errW_none, errW_some] <;> rfl), by repeat (first | (with_reducible first | exact HB.out | apply below_alloc | apply pw_below_drewN | apply below_drew1) | exact HB.out)⟩
  ·rw [if_neg c3] at H
   exact absurd H (by simp)
 ·rw [if_neg c2] at H
  have c2b0 : ((t110.length : Int) == 2) = false := beq_eq_false_iff_ne.mpr c2
  have c2b1 : ((t110.length : Int) != 2) = true := bne_iff_ne.mpr c2
  obtain rfl := Option.some.inj H
  go_enter Try.func35, Try.ntmps35
  go_wp2_with (first | ((with_reducible refine gate_dst (N := 4) rfl ?_); refine Kd.R_lit k54 _ 54 ?hg (N := 4) ?hd (xs := ([(⟨1, 1⟩ : S54), (⟨2, 2⟩ : S54)] : List (S54))) (inner := [.int .i64 1, .int .i64 1, .int .i64 2, .int .i64 2]) (ok := fun _ => True) (okp := fun _ => True) ?hr ?hp (fun _ hk => hk) trivial (Below.refl _ _) (Nat.le_refl _) (by simp) ?_; (case hd => rfl); (case hg => rfl); (case hr => first | (go_simp; done) | (go_simp; rfl)); (case hp => exact (Reps.c2 (show Kd.M k54 _ _ _ (⟨1, 1⟩ : S54) [.int .i64 1, .int .i64 1] from (k54_mkM _ _ _ (⟨1, 1⟩ : S54) )) (Reps.c2 (show Kd.M k54 _ _ _ (⟨2, 2⟩ : S54) [.int .i64 2, .int .i64 2] from (k54_mkM _ _ _ (⟨2, 2⟩ : S54) )) (Reps.none _ _)))); intro v102 w28 ho29 hb hg_ hnew_; clear hg_ hnew_; (first | rw [← Ny101.out] at ho29 | (simp only [Int.reduceToNat] at ho29; rw [← Ny101.out] at ho29)); have n0_ := Aside0.mk (Kd.R_lower ho29 (below_size (by repeat (first | (with_reducible first | exact HB.out | apply below_alloc | apply pw_below_drewN | apply below_drew1) | exact HB.out)))); have n1_ := Aside0.mk (below_step (by repeat (first | (with_reducible first | exact HB.out | apply below_alloc | apply pw_below_drewN | apply below_drew1) | exact HB.out)) hb); clear HB; have HO103 := n0_; have HB := n1_; clear n0_ n1_; clear hb ho29) | ((with_reducible refine gate_dst (N := 6) rfl ?_); refine Kd.R_lit k54 _ 54 ?hg (N := 6) ?hd (xs := ([(⟨2, 3⟩ : S54)] : List (S54))) (inner := [.int .i64 2, .int .i64 3]) (ok := fun _ => True) (okp := fun _ => True) ?hr ?hp (fun _ hk => hk) trivial (Below.refl _ _) (Nat.le_refl _) (by simp) ?_; (case hd => rfl); (case hg => rfl); (case hr => first | (go_simp; done) | (go_simp; rfl)); (case hp => exact (Reps.c2 (show Kd.M k54 _ _ _ (⟨2, 3⟩ : S54) [.int .i64 2, .int .i64 3] from (k54_mkM _ _ _ (⟨2, 3⟩ : S54) )) (Reps.none _ _))); intro v105 w30 ho31 hb hg_ hnew_; clear hg_ hnew_; (first | rw [← Ny104.out] at ho31 | (simp only [Int.reduceToNat] at ho31; rw [← Ny104.out] at ho31)); have n0_ := Aside0.mk (Kd.R_elder' (by (with_reducible repeat (first | apply Kd.R_alloc | apply Kd.R_drewN | apply Kd.R_drew)); exact HO103.out) (Kd.R_base ho31) hb); have n1_ := Aside0.mk (Kd.R_lower (Kd.R_new' ho31 (Kd.R_lt (by (with_reducible repeat (first | apply Kd.R_alloc | apply Kd.R_drewN | apply Kd.R_drew)); exact HO103.out))) (below_size (by repeat (first | (with_reducible first | exact HB.out | apply below_alloc | apply pw_below_drewN | apply below_drew1) | exact HB.out)))); have n2_ := Aside0.mk (below_step (by repeat (first | (with_reducible first | exact HB.out | apply below_alloc | apply pw_below_drewN | apply below_drew1) | exact HB.out)) hb); clear HO103; clear HB; have HO103 := n0_; have HO106 := n1_; have HB := n2_; clear n0_ n1_ n2_; clear hb ho31; obtain ⟨Ao32, co32, eo32⟩ := Kd.R_slice HO103.out; subst eo32; obtain ⟨Ao33, co33, eo33⟩ := Kd.R_slice HO106.out; subst eo33) | ((with_reducible refine gate_dst (N := 7) rfl ?_); refine Kd.N_lit (Kd.slice 54 k54) _ 60 ?hg (N' := 7) ?hd (xs := ([y101, y104] : List (List (S54)))) (inner := [.slice Ao32 y101.length co32, .slice Ao33 y104.length co33]) (ok := (fun _ => True)) (okp := (fun _ => True)) ?hr ?hp (fun _ hk => hk) ((show ∀ k_, w30.heap.size ≤ k_ → (fun _ => True) k_ from fun k_ hk => trivial) _ (Nat.le_refl _)) (Below.refl _ _) (Nat.le_refl _) (by simp) ?_; (case hd => rfl); (case hg => rfl); (case hr => first | (go_simp; done) | (go_simp; rfl)); (case hp => exact (Reps.one (show Kd.FK (Kd.slice 54 k54) _ _ y101 [.slice Ao32 y101.length co32] from (Kd.FK_slice_mk (Kd.R_reads' (Kd.R_mono (ok' := (fun _ => True)) (HO103.out) (fun k_ hk => trivial))).2.1 (Kd.R_F (Kd.R_mono (ok' := (fun _ => True)) (HO103.out) (fun k_ hk => trivial))))) (Reps.one (show Kd.FK (Kd.slice 54 k54) _ _ y104 [.slice Ao33 y104.length co33] from (Kd.FK_slice_mk (Kd.R_reads' (Kd.R_mono (ok' := (fun _ => True)) (HO106.out) (fun k_ hk => trivial))).2.1 (Kd.R_F (Kd.R_mono (ok' := (fun _ => True)) (HO106.out) (fun k_ hk => trivial))))) (Reps.none _ _)))); intro v108 w34 ho35 hb hg_ hnew_; clear hg_ hnew_; (first | rw [← Ny107.out] at ho35 | (simp only [Int.reduceToNat] at ho35; rw [← Ny107.out] at ho35)); have n0_ := Aside0.mk (Kd.N_lower ho35 (below_size (by repeat (first | (with_reducible first | exact HB.out | apply below_alloc | apply pw_below_drewN | apply below_drew1) | exact HB.out)))); have n1_ := Aside0.mk (below_step (by repeat (first | (with_reducible first | exact HB.out | apply below_alloc | apply pw_below_drewN | apply below_drew1) | exact HB.out)) hb); clear HB; clear HO103; clear HO106; have HO109 := n0_; have HB := n1_; clear n0_ n1_; clear hb ho35; obtain ⟨Ao36, co36, eo36⟩ := Kd.N_slice HO109.out; subst eo36) | ((with_reducible refine gate_callee (f := 38) rfl ?_); refine goesL_ (some 8) rfl rfl Try.func38 (by kernel_rfl) rfl #[.slice Ao36 y107.length co36] rfl (by (try simp only [List.map_toArray, List.map_cons, List.map_nil]); first | done | rfl | (simp only [List.length_drop, List.length_take]; rfl)) ?_; (with_reducible refine (merge_Samples.calls _ _ y107 t110 _ ?side1 ?side2 A1.out).mono ?_); (case side1 => repeat (first | exact (Kd.N_reads' HO109.out).2.2 | (with_reducible refine Kd.C_alloc ?_ _) | (with_reducible refine Kd.C_drewN ?_ _) | (with_reducible refine Kd.C_drew ?_))); (case side2 => exact (Kd.N_reads' HO109.out).2.1); rintro e w37 ⟨v111, rfl, ho0, hb⟩; refine ⟨_, rfl, ?_⟩; have n0_ := Aside0.mk (Kd.N_elder' (by (with_reducible repeat (first | apply Kd.N_alloc | apply Kd.N_drewN | apply Kd.N_drew)); exact HO109.out) (Kd.R_base ho0) hb); have n1_ := Aside0.mk (Kd.R_lower ho0 (below_size (by repeat (first | (with_reducible first | exact HB.out | apply below_alloc | apply pw_below_drewN | apply below_drew1) | exact HB.out)))); have n2_ := Aside0.mk (below_step (by repeat (first | (with_reducible first | exact HB.out | apply below_alloc | apply pw_below_drewN | apply below_drew1) | exact HB.out)) hb); clear HO109; clear HB; have HO109 := n0_; have HO112 := n1_; have HB := n2_; clear n0_ n1_ n2_; (try clear hb); (try clear hb2); (try clear hk); (try clear hi); (try clear ho0); obtain ⟨Ao38, co38, eo38⟩ := Kd.R_slice HO112.out; subst eo38))
  go_ret
  exact ⟨by first | rfl | (simp [errW_none, errW_some] <;> rfl) | (simp [*, errW_none, errW_some] <;> rfl), by repeat (first | (with_reducible first | exact HB.out | apply below_alloc | apply pw_below_drewN | apply below_drew1) | exact HB.out)⟩

/-! ### lysimeterref11_SameSamples: function 39 -/
def lysimeterref11_SameSamples.l0 : Nat → List (S54) → List (S54) → Int → Option (Bool)
 | 0, _, _, _ => none
 | k + 1, x0, x1, x5 => if x5 < (x0.length : Int) then (if 0 ≤ x5 then (if x5 < (x1.length : Int) then (if (!(((rd_T54 x0 x5).f0) == ((rd_T54 x1 x5).f0)) || (!(((rd_T54 x0 x5).f1) == ((rd_T54 x1 x5).f1)))) = true then (some false) else (lysimeterref11_SameSamples.l0 k x0 x1 (wrap64 (x5 + 1)))) else (none)) else (none)) else (some true)
def lysimeterref11_SameSamples.f (k : Nat) (l0 : List (S54)) (l1 : List (S54)) : Option (Bool) := if (l0.length : Int) = (l1.length : Int) then (lysimeterref11_SameSamples.l0 k l0 l1 0) else (some false)
theorem lysimeterref11_SameSamples.mono_l : ∀ k, (∀ y0 y1 y2, LeO (lysimeterref11_SameSamples.l0 k y0 y1 y2) (lysimeterref11_SameSamples.l0 (k + 1) y0 y1 y2))
 | 0 => fun _ _ _ r h => by simp [lysimeterref11_SameSamples.l0] at h
 | k + 1 => by
  have ih0 := lysimeterref11_SameSamples.mono_l k
  ·intro y0 y1 y2
   unfold lysimeterref11_SameSamples.l0
   repeat' first
   | (with_reducible exact ih0 _ _ _)
   | (with_reducible exact LeO.refl _)
   | (with_reducible exact LeO.none _)
   | (with_reducible refine LeO.ite ?_ ?_)
   | (with_reducible refine LeO.bind ?_ (fun _ => ?_))
   | exact ih0 _ _ _
   | exact LeO.none _
   | refine LeO.ite ?_ ?_
   | refine LeO.bind ?_ (fun _ => ?_)
theorem lysimeterref11_SameSamples.mono : ∀ a0 a1 k, LeO (lysimeterref11_SameSamples.f k a0 a1) (lysimeterref11_SameSamples.f (k + 1) a0 a1) := by
 intro a0 a1 k
 have ih0 := lysimeterref11_SameSamples.mono_l k
 unfold lysimeterref11_SameSamples.f
 repeat' first
   | (with_reducible exact ih0 _ _ _)
   | (with_reducible exact LeO.refl _)
   | (with_reducible exact LeO.none _)
   | (with_reducible refine LeO.ite ?_ ?_)
   | (with_reducible refine LeO.bind ?_ (fun _ => ?_))
   | exact ih0 _ _ _
   | exact LeO.none _
   | refine LeO.ite ?_ ?_
   | refine LeO.bind ?_ (fun _ => ?_)
set_option maxHeartbeats 8000000 in
set_option maxRecDepth 100000 in
theorem lysimeterref11_SameSamples.calls (k : Nat) (A0 : Option Addr) (c0 : Nat) (l0 : List (S54)) (A1 : Option Addr) (c1 : Nat) (l1 : List (S54)) (r : Bool) (w : World) (hr0 : Kd.C k54 w A0 l0.length l0) (hc0 : l0.length ≤ c0) (hr1 : Kd.C k54 w A1 l1.length l1) (hc1 : l1.length ≤ c1) (h : lysimeterref11_SameSamples.f k l0 l1 = some r) :
  Calls Try.prog 39 #[.slice A0 l0.length c0, .slice A1 l1.length c1] w fun e w' => e = .returned (.bool r) ∧ Drawn0 w w' := by
 have hu54 := Try.underlying54
 have HR0 := Aside0.mk hr0
 have HC0 := Aside0.mk hc0
 clear hr0 hc0
 have HR1 := Aside0.mk hr1
 have HC1 := Aside0.mk hc1
 clear hr1 hc1
 have H : (if (l0.length : Int) = (l1.length : Int) then (lysimeterref11_SameSamples.l0 k l0 l1 0) else (some false)) = some r := h
 clear h
 by_cases c3 : (l0.length : Int) = (l1.length : Int)
 ·rw [if_pos c3] at H
  have c3b0 : ((l0.length : Int) == (l1.length : Int)) = true := beq_iff_eq.mpr c3
  have c3b1 : ((l0.length : Int) != (l1.length : Int)) = false := bne_eq_false_iff_eq.mpr c3
  have c3b2 : (l0.length == l1.length) = true := by first | simpa using c3 | (simp at c3 ⊢; omega)
  clear c3
  have H' := Aside0.mk H
  clear H
  go_enter Try.func39, Try.ntmps39
  go_wp2
  repeat (go_quiet (fail); try go_wp2)
  go_loopg [5] k (fun kq v5 w' => ∃ (x5_1 : Int), v5 = .int .i64 x5_1 ∧ Aside0 (lysimeterref11_SameSamples.l0 kq l0 l1 x5_1 = some r) ∧ Aside0 (kq ≤ k) ∧ Drawn0 w w')
  case atStart => exact ⟨(0), (by first | rfl | (simp; done) | (simp [*]; done)), H', ⟨Nat.le_refl _⟩, by repeat (first | exact Drawn0.refl _ | apply Drawn0.step)⟩
  case round =>
   clear H'
   (try clear c1); (try clear p2); (try clear c3); (try clear c3b0); (try clear c3b1); (try clear c3b2)
   obtain ⟨x5_1, rfl, HA, HK1, ⟨m1, rfl⟩⟩ := hrel
   cases gk with
   | zero => exact absurd HA.out (by simp [lysimeterref11_SameSamples.l0])
   | succ k1 =>
    have H := HA.out
    clear HA
    simp only [lysimeterref11_SameSamples.l0] at H
    by_cases c4 : x5_1 < (l0.length : Int)
    ·rw [if_pos c4] at H
     have c4b0 : decide (x5_1 < (l0.length : Int)) = true := decide_eq_true c4
     clear c4
     by_cases c5 : 0 ≤ x5_1
     ·rw [if_pos c5] at H
      have c5b0 : decide (0 ≤ x5_1) = true := decide_eq_true c5
      clear c5
      by_cases c6 : x5_1 < (l1.length : Int)
      ·rw [if_pos c6] at H
       have c6b0 : decide (x5_1 < (l1.length : Int)) = true := decide_eq_true c6
       clear c6
       by_cases c7 : (!(((rd_T54 l0 x5_1).f0) == ((rd_T54 l1 x5_1).f0)) || (!(((rd_T54 l0 x5_1).f1) == ((rd_T54 l1 x5_1).f1)))) = true
       ·rw [if_pos c7] at H
        have c7b0 : (!(((rd_T54 l0 x5_1).f0) == ((rd_T54 l1 x5_1).f0)) || (!(((rd_T54 l0 x5_1).f1) == ((rd_T54 l1 x5_1).f1)))) = true := c7
        clear c7
        obtain rfl := Option.some.inj H
        have p115 : 0 ≤ (x5_1 : Int) := of_decide_eq_true (by first | (with_reducible assumption) | assumption)
        have q115 : x5_1 < (l0.length : Int) := of_decide_eq_true (by first | (with_reducible assumption) | assumption)
        obtain ⟨ad115, e115, hx115_0, hx115_1⟩ := at_T54 HR0.out x5_1 p115 q115
        cases e115
        replace p115 := eq_true p115
        replace q115 := eq_true q115
        have p116 : 0 ≤ (x5_1 : Int) := of_decide_eq_true (by first | (with_reducible assumption) | assumption)
        have q116 : x5_1 < (l1.length : Int) := of_decide_eq_true (by first | (with_reducible assumption) | assumption)
        obtain ⟨ad116, e116, hx116_0, hx116_1⟩ := at_T54 HR1.out x5_1 p116 q116
        cases e116
        replace p116 := eq_true p116
        replace q116 := eq_true q116
        go_wp2
        repeat (go_quiet (fail); try go_wp2)
        go_ret
        exact ⟨by first | rfl | (simp; done) | (simp [*]; done), by repeat (first | exact Drawn0.refl _ | apply Drawn0.step)⟩
       ·rw [if_neg c7] at H
        have c7b0 : (!(((rd_T54 l0 x5_1).f0) == ((rd_T54 l1 x5_1).f0)) || (!(((rd_T54 l0 x5_1).f1) == ((rd_T54 l1 x5_1).f1)))) = false := by simpa using c7
        clear c7
        have H' := Aside0.mk H
        clear H
        have p115 : 0 ≤ (x5_1 : Int) := of_decide_eq_true (by first | (with_reducible assumption) | assumption)
        have q115 : x5_1 < (l0.length : Int) := of_decide_eq_true (by first | (with_reducible assumption) | assumption)
        obtain ⟨ad115, e115, hx115_0, hx115_1⟩ := at_T54 HR0.out x5_1 p115 q115
        cases e115
        replace p115 := eq_true p115
        replace q115 := eq_true q115
        have p116 : 0 ≤ (x5_1 : Int) := of_decide_eq_true (by first | (with_reducible assumption) | assumption)
        have q116 : x5_1 < (l1.length : Int) := of_decide_eq_true (by first | (with_reducible assumption) | assumption)
        obtain ⟨ad116, e116, hx116_0, hx116_1⟩ := at_T54 HR1.out x5_1 p116 q116
        cases e116
        replace p116 := eq_true p116
        replace q116 := eq_true q116
        go_wp2
        repeat (go_quiet (fail); try go_wp2)
        go_roundg k1
        case measure => have := HK1.out; omega
        case rel => exact ⟨(wrap64 (x5_1 + 1)), (by first | rfl | (simp; done) | (simp [*]; done)), H', ⟨by have := HK1.out; omega⟩, by repeat (first | exact Drawn0.refl _ | apply Drawn0.step)⟩
      ·rw [if_neg c6] at H
       exact absurd H (by simp)
     ·rw [if_neg c5] at H
      exact absurd H (by simp)
    ·rw [if_neg c4] at H
     have c4b0 : decide (x5_1 < (l0.length : Int)) = false := decide_eq_false c4
     clear c4
     obtain rfl := Option.some.inj H
     go_wp2
     repeat (go_quiet (fail); try go_wp2)
     go_ret
     exact ⟨by first | rfl | (simp; done) | (simp [*]; done), by repeat (first | exact Drawn0.refl _ | apply Drawn0.step)⟩
 ·rw [if_neg c3] at H
  have c3b0 : ((l0.length : Int) == (l1.length : Int)) = false := beq_eq_false_iff_ne.mpr c3
  have c3b1 : ((l0.length : Int) != (l1.length : Int)) = true := bne_iff_ne.mpr c3
  have c3b2 : (l0.length == l1.length) = false := by first | simpa using c3 | (simp at c3 ⊢; omega)
  obtain rfl := Option.some.inj H
  go_enter Try.func39, Try.ntmps39
  go_wp2
  repeat (go_quiet (fail); try go_wp2)
  go_ret
  exact ⟨by first | rfl | (simp; done) | (simp [*]; done), by repeat (first | exact Drawn0.refl _ | apply Drawn0.step)⟩

/-! ### lysimeterlaw18_MergeTwice: function 8 -/
def lysimeterlaw18_MergeTwice.f (k : Nat) (l0 : List S54) (l1 : List S54) (l2 : List S54) : Option Bool :=
  if lysimeterlaw18_alive.f = some true ∧ l0.length < 140737488355328 ∧ l1.length < 140737488355328 ∧ l2.length < 140737488355328 then
    (if l0.length + l1.length + l2.length > 600 then some true else
      (if lysimeterref11_SameSamples.f k (Go.Proofs.Ytjilnpbgclnecac.XMg.mrg merge_Samples.key (l0 ++ (l1 ++ l2))) (Go.Proofs.Ytjilnpbgclnecac.XMg.mrg merge_Samples.key (Go.Proofs.Ytjilnpbgclnecac.XMg.mrg merge_Samples.key (l0 ++ l1) ++ l2)) = some true ∧
          lysimeterref11_SameSamples.f k (Go.Proofs.Ytjilnpbgclnecac.XMg.mrg merge_Samples.key (l0 ++ (l1 ++ l2))) (Go.Proofs.Ytjilnpbgclnecac.XMg.mrg merge_Samples.key (l0 ++ Go.Proofs.Ytjilnpbgclnecac.XMg.mrg merge_Samples.key (l1 ++ l2))) = some true ∧
          lysimeterref11_SameSamples.f k (Go.Proofs.Ytjilnpbgclnecac.XMg.mrg merge_Samples.key (l0 ++ (l1 ++ l2))) (Go.Proofs.Ytjilnpbgclnecac.XMg.mrg merge_Samples.key (Go.Proofs.Ytjilnpbgclnecac.XMg.mrg merge_Samples.key (l0 ++ (l1 ++ l2)) ++ Go.Proofs.Ytjilnpbgclnecac.XMg.mrg merge_Samples.key (l0 ++ (l1 ++ l2)))) = some true then some true else none))
  else none
theorem lysimeterlaw18_MergeTwice.mono (l0 l1 l2 : List S54) : ∀ k, LeO (lysimeterlaw18_MergeTwice.f k l0 l1 l2) (lysimeterlaw18_MergeTwice.f (k + 1) l0 l1 l2) := by
  intro k r h
  unfold lysimeterlaw18_MergeTwice.f at h ⊢
  split at h
  case isFalse => cases h
  rename_i h0
  rw [if_pos h0]
  split at h
  · rename_i h1
    rw [if_pos h1]
    exact h
  · rename_i h1
    rw [if_neg h1]
    split at h
    case isFalse => cases h
    rename_i h2
    rw [if_pos ⟨lysimeterref11_SameSamples.mono _ _ k _ h2.1, lysimeterref11_SameSamples.mono _ _ k _ h2.2.1, lysimeterref11_SameSamples.mono _ _ k _ h2.2.2⟩]
    exact h
-- WALK
section
open Go.Proofs.Ytjilnpbgclnecac.XH Go.Proofs.Ytjilnpbgclnecac.XMg
theorem lysimeterlaw18_MergeTwice.callOf {W : World} {A : Option Addr} {c : Nat} {xs : List (List S54)} (hC : Kd.C (Kd.slice 54 k54) W A xs.length xs) (hc : xs.length ≤ c) (h1 : xs.length < 1099511627776) (h2 : xs.flatten.length < 1099511627776) :
    Calls Try.prog 38 #[.slice A xs.length c] W fun e w' => ∃ (A' : Option Addr) (c' : Nat), e = .returned (.slice A' (mrg merge_Samples.key xs.flatten).length c') ∧ Kd.C k54 w' A' (mrg merge_Samples.key xs.flatten).length (mrg merge_Samples.key xs.flatten) ∧ (mrg merge_Samples.key xs.flatten).length ≤ c' ∧ Below W.heap.size W w' := by
  refine (merge_Samples.calls A c xs (mrg merge_Samples.key xs.flatten) W hC hc (by unfold merge_Samples.f; rw [if_pos ⟨h1, h2⟩])).mono ?_
  rintro e w' ⟨v, rfl, ho, hb⟩
  obtain ⟨A', c', rfl⟩ := Kd.R_slice ho
  obtain ⟨_, h3, h4⟩ := Kd.R_reads' ho
  exact ⟨A', c', rfl, h4, h3, hb⟩
theorem lysimeterlaw18_MergeTwice.litC {W : World} {os : Obj} {cs : Array Value} (ho : os = .cells cs 60) {xs : List (List S54)} (hl : xs.length ≤ 9223372036854775807) (h : ∀ (j : Nat) (x : List S54), xs[j]? = some x → ∃ (A : Option Addr) (c : Nat), cs[j]? = some (Value.slice A x.length c) ∧ x.length ≤ c ∧ Kd.C k54 W A x.length x) :
    Kd.C (Kd.slice 54 k54) (W.alloc os) (some ⟨W.heap.size, 0, none⟩) xs.length xs := by
  subst ho
  refine ⟨rfl, hl, fun hp => ⟨_, rfl, fun j x hj => ?_⟩⟩
  obtain ⟨A, c, h1, h2, h3⟩ := h j x hj
  refine ⟨[.slice A x.length c], rfl, ⟨A, c, rfl, h2, Kd.C_alloc h3 _⟩, fun i u hu => ?_⟩
  match i with
  | 0 =>
    rw [show (⟨W.heap.size, 0, none⟩ : Addr).add (j * (Kd.slice 54 k54).sz + 0) = ⟨W.heap.size, j, none⟩ from by
      rw [show j * (Kd.slice 54 k54).sz + 0 = j from Nat.mul_one j]
      unfold Addr.add
      split
      · rename_i h; rw [h]
      · simp, blk_cell (blk_new W _) j, h1, ← hu]
    rfl
  | i + 1 => simp at hu
theorem lysimeterlaw18_MergeTwice.two {W : World} {A B : Option Addr} {ca cb : Nat} {x y : List S54} (hx : Kd.C k54 W A x.length x) (hxc : x.length ≤ ca) (hy : Kd.C k54 W B y.length y) (hyc : y.length ≤ cb) (hl : x.length + y.length < 1099511627776) :
    Calls Try.prog 38 #[.slice (some ⟨W.heap.size, 0, none⟩) 2 2] (W.alloc (.cells #[.slice A x.length ca, .slice B y.length cb] 60)) fun e w' => ∃ (A' : Option Addr) (c' : Nat), e = .returned (.slice A' (mrg merge_Samples.key (x ++ y)).length c') ∧ Kd.C k54 w' A' (mrg merge_Samples.key (x ++ y)).length (mrg merge_Samples.key (x ++ y)) ∧ (mrg merge_Samples.key (x ++ y)).length ≤ c' ∧ Below W.heap.size W w' := by
  have h := lysimeterlaw18_MergeTwice.callOf (xs := [x, y]) (c := 2) (lysimeterlaw18_MergeTwice.litC (W := W) (cs := #[.slice A x.length ca, .slice B y.length cb]) rfl (by simp) (fun j z hj => by
    match j with
    | 0 => have e := Option.some.inj hj; subst e; exact ⟨A, ca, rfl, hxc, hx⟩
    | 1 => have e := Option.some.inj hj; subst e; exact ⟨B, cb, rfl, hyc, hy⟩
    | j + 2 => simp at hj)) (by simp) (by simp) (by simpa using hl)
  rw [show ([x, y] : List (List S54)).flatten = x ++ y from by simp] at h
  refine h.mono ?_
  rintro e w' ⟨A', c', he, h1, h2, h3⟩
  exact ⟨A', c', he, h1, h2, Below.trans (below_alloc (Below.refl _ _) _) (h3.mono (by simp))⟩
theorem lysimeterlaw18_MergeTwice.three {W : World} {A B C : Option Addr} {ca cb cc : Nat} {x y z : List S54} (hx : Kd.C k54 W A x.length x) (hxc : x.length ≤ ca) (hy : Kd.C k54 W B y.length y) (hyc : y.length ≤ cb) (hz : Kd.C k54 W C z.length z) (hzc : z.length ≤ cc) (hl : x.length + y.length + z.length < 1099511627776) :
    Calls Try.prog 38 #[.slice (some ⟨W.heap.size, 0, none⟩) 3 3] (W.alloc (.cells #[.slice A x.length ca, .slice B y.length cb, .slice C z.length cc] 60)) fun e w' => ∃ (A' : Option Addr) (c' : Nat), e = .returned (.slice A' (mrg merge_Samples.key (x ++ (y ++ z))).length c') ∧ Kd.C k54 w' A' (mrg merge_Samples.key (x ++ (y ++ z))).length (mrg merge_Samples.key (x ++ (y ++ z))) ∧ (mrg merge_Samples.key (x ++ (y ++ z))).length ≤ c' ∧ Below W.heap.size W w' := by
  have h := lysimeterlaw18_MergeTwice.callOf (xs := [x, y, z]) (c := 3) (lysimeterlaw18_MergeTwice.litC (W := W) (cs := #[.slice A x.length ca, .slice B y.length cb, .slice C z.length cc]) rfl (by simp) (fun j u hj => by
    match j with
    | 0 => have e := Option.some.inj hj; subst e; exact ⟨A, ca, rfl, hxc, hx⟩
    | 1 => have e := Option.some.inj hj; subst e; exact ⟨B, cb, rfl, hyc, hy⟩
    | 2 => have e := Option.some.inj hj; subst e; exact ⟨C, cc, rfl, hzc, hz⟩
    | j + 3 => simp at hj)) (by simp) (by simp) (by simp; omega)
  rw [show ([x, y, z] : List (List S54)).flatten = x ++ (y ++ z) from by simp] at h
  refine h.mono ?_
  rintro e w' ⟨A', c', he, h1, h2, h3⟩
  exact ⟨A', c', he, h1, h2, Below.trans (below_alloc (Below.refl _ _) _) (h3.mono (by simp))⟩
theorem lysimeterlaw18_MergeTwice.mlen (l : List S54) : (mrg merge_Samples.key l).length ≤ l.length := mrg_len l
set_option maxHeartbeats 8000000 in
set_option maxRecDepth 100000 in
theorem lysimeterlaw18_MergeTwice.calls (k : Nat) (A0 : Option Addr) (c0 : Nat) (l0 : List S54) (A1 : Option Addr) (c1 : Nat) (l1 : List S54) (A2 : Option Addr) (c2 : Nat) (l2 : List S54) (r : Bool) (w : World) (hr0 : Kd.C k54 w A0 l0.length l0) (hc0 : l0.length ≤ c0) (hr1 : Kd.C k54 w A1 l1.length l1) (hc1 : l1.length ≤ c1) (hr2 : Kd.C k54 w A2 l2.length l2) (hc2 : l2.length ≤ c2) (hr_ : r = true) (h : lysimeterlaw18_MergeTwice.f k l0 l1 l2 = some r) :
    Calls Try.prog 8 #[.slice A0 l0.length c0, .slice A1 l1.length c1, .slice A2 l2.length c2] w fun e w' => e = .returned (.bool r) ∧ Below w.heap.size w w' := by
  subst hr_
  unfold lysimeterlaw18_MergeTwice.f at h
  split at h
  case isFalse => cases h
  rename_i h0
  obtain ⟨hal, hl0, hl1, hl2⟩ := h0
  have HAL := Aside0.mk (lysimeterlaw18_alive.calls true w hal)
  have z0 : (l0.length : Int) < 140737488355328 := by omega
  have z1 : (l1.length : Int) < 140737488355328 := by omega
  have z2 : (l2.length : Int) < 140737488355328 := by omega
  have HC0 := Aside0.mk hr0
  have HC1 := Aside0.mk hr1
  have HC2 := Aside0.mk hr2
  have HN0 := Aside0.mk hc0
  have HN1 := Aside0.mk hc1
  have HN2 := Aside0.mk hc2
  clear hal hl0 hl1 hl2 hr0 hr1 hr2 hc0 hc1 hc2
  have hw1 : IntKind.i64.wrap ((l0.length : Int) + (l1.length : Int)) = (l0.length : Int) + (l1.length : Int) := by rw [IntKind.wrap_i64]; omega
  have hw2 : IntKind.i64.wrap ((l0.length : Int) + (l1.length : Int) + (l2.length : Int)) = (l0.length : Int) + (l1.length : Int) + (l2.length : Int) := by rw [IntKind.wrap_i64]; omega
  split at h
  · rename_i hbig
    have hb : (600 : Int) < (l0.length : Int) + (l1.length : Int) + (l2.length : Int) := by omega
    have hd : decide ((600 : Int) < (l0.length : Int) + (l1.length : Int) + (l2.length : Int)) = true := decide_eq_true hb
    clear h hbig
    go_enter Try.func8, Try.ntmps8
    go_wp2_with (go_at_call 35; (with_reducible refine HAL.out.mono ?_); rintro e W0 ⟨rfl, hb0⟩; have HB0 := Aside0.mk hb0; clear hb0)
    go_ret
    exact ⟨rfl, HB0.out⟩
  · rename_i hbig
    split at h
    case isFalse => cases h
    rename_i hs
    clear h
    have hlen : l0.length + l1.length + l2.length ≤ 600 := by omega
    have hm0 := lysimeterlaw18_MergeTwice.mlen (l0 ++ (l1 ++ l2))
    have hm1 := lysimeterlaw18_MergeTwice.mlen (l0 ++ l1)
    have hm2 := lysimeterlaw18_MergeTwice.mlen (l1 ++ l2)
    have HT := fun W h0 h1 h2 hl => lysimeterlaw18_MergeTwice.three (W := W) (A := A0) (B := A1) (C := A2) (ca := c0) (cb := c1) (cc := c2) (x := l0) (y := l1) (z := l2) h0 HN0.out h1 HN1.out h2 HN2.out hl
    have H5 := fun W h0 h1 hl => lysimeterlaw18_MergeTwice.two (W := W) (A := A0) (B := A1) (ca := c0) (cb := c1) (x := l0) (y := l1) h0 HN0.out h1 HN1.out hl
    have H6 := fun W h0 h1 hl => lysimeterlaw18_MergeTwice.two (W := W) (A := A1) (B := A2) (ca := c1) (cb := c2) (x := l1) (y := l2) h0 HN1.out h1 HN2.out hl
    obtain ⟨m, hm⟩ : ∃ m, m = mrg merge_Samples.key (l0 ++ (l1 ++ l2)) := ⟨_, rfl⟩
    obtain ⟨m1, hm1e⟩ : ∃ m, m = mrg merge_Samples.key (l0 ++ l1) := ⟨_, rfl⟩
    obtain ⟨m2, hm2e⟩ : ∃ m, m = mrg merge_Samples.key (l1 ++ l2) := ⟨_, rfl⟩
    rw [← hm] at hs hm0 HT
    rw [← hm1e] at hs hm1 H5
    rw [← hm2e] at hs hm2 H6
    have H5b := fun W A c h0 hc h1 hl => lysimeterlaw18_MergeTwice.two (W := W) (A := A) (B := A2) (ca := c) (cb := c2) (x := m1) (y := l2) h0 hc h1 HN2.out hl
    have H6b := fun W A c h0 hc h1 hl => lysimeterlaw18_MergeTwice.two (W := W) (A := A0) (B := A) (ca := c0) (cb := c) (x := l0) (y := m2) h0 HN0.out h1 hc hl
    have H7 := fun W A c h0 hc hl => lysimeterlaw18_MergeTwice.two (W := W) (A := A) (B := A) (ca := c) (cb := c) (x := m) (y := m) h0 hc h0 hc hl
    obtain ⟨ml, hml⟩ : ∃ q, q = mrg merge_Samples.key (m1 ++ l2) := ⟨_, rfl⟩
    obtain ⟨mr, hmr⟩ : ∃ q, q = mrg merge_Samples.key (l0 ++ m2) := ⟨_, rfl⟩
    obtain ⟨ma, hma⟩ : ∃ q, q = mrg merge_Samples.key (m ++ m) := ⟨_, rfl⟩
    rw [← hml] at hs H5b
    rw [← hmr] at hs H6b
    rw [← hma] at hs H7
    rw [List.length_append] at hm1 hm2
    rw [List.length_append, List.length_append] at hm0
    have HS := Aside0.mk hs
    have HLEN := Aside0.mk (show m.length ≤ 600 ∧ m1.length ≤ 600 ∧ m2.length ≤ 600 ∧ l0.length ≤ 600 ∧ l1.length ≤ 600 ∧ l2.length ≤ 600 by omega)
    have HT := Aside0.mk HT
    have H5 := Aside0.mk H5
    have H6 := Aside0.mk H6
    have H5b := Aside0.mk H5b
    have H6b := Aside0.mk H6b
    have H7 := Aside0.mk H7
    have hb : ¬ (600 : Int) < (l0.length : Int) + (l1.length : Int) + (l2.length : Int) := by omega
    have hd : decide ((600 : Int) < (l0.length : Int) + (l1.length : Int) + (l2.length : Int)) = false := decide_eq_false hb
    clear hs hbig hm hm1e hm2e hml hmr hma hm0 hm1 hm2 hlen
    go_enter Try.func8, Try.ntmps8
    go_upto_region 4 with (go_at_call 35; (with_reducible refine HAL.out.mono ?_); rintro e W0 ⟨rfl, hb0⟩; have HB0 := Aside0.mk hb0; clear hb0)
    have HA := Aside0.mk (HT.out W0 (Kd.C_below HC0.out HB0.out) (Kd.C_below HC1.out HB0.out) (Kd.C_below HC2.out HB0.out) (by have := HLEN.out; omega))
    go_upto_region 5 with (go_at_call 38; (with_reducible refine HA.out.mono ?_); rintro e W1 ⟨A8, c8, rfl, hC8, hc8, hb1⟩; have HC8 := Aside0.mk hC8; have HN8 := Aside0.mk hc8; have HB1 := Aside0.mk (below_step HB0.out hb1); clear hC8 hc8 hb1)
    have HA2 := Aside0.mk (H5.out W1 (Kd.C_below HC0.out HB1.out) (Kd.C_below HC1.out HB1.out) (by have := HLEN.out; omega))
    go_upto_region 6 with (first
      | (go_at_call 38; (with_reducible refine HA2.out.mono ?_); rintro e W2 ⟨A9, c9, rfl, hC9, hc9, hb2⟩; have HB2 := Aside0.mk (below_step HB1.out hb2); have HC8b := Aside0.mk (Kd.C_below HC8.out hb2); have HA3 := Aside0.mk (H5b.out W2 A9 c9 hC9 hc9 (Kd.C_below HC2.out HB2.out) (by have := HLEN.out; omega)); clear hC9 hc9 hb2)
      | (go_at_call 38; (with_reducible refine HA3.out.mono ?_); rintro e W3 ⟨A10, c10, rfl, hC10, hc10, hb3⟩; have HB3 := Aside0.mk (below_step HB2.out hb3); have HC8c := Aside0.mk (Kd.C_below HC8b.out hb3); have HC10 := Aside0.mk hC10; have HN10 := Aside0.mk hc10; clear hC10 hc10 hb3))
    have HA4 := Aside0.mk (H6.out W3 (Kd.C_below HC1.out HB3.out) (Kd.C_below HC2.out HB3.out) (by have := HLEN.out; omega))
    clear HA HA2 HA3 HC8 HC8b
    go_upto_region 7 with (first
      | (go_at_call 38; (with_reducible refine HA4.out.mono ?_); rintro e W4 ⟨A11, c11, rfl, hC11, hc11, hb4⟩; have HB4 := Aside0.mk (below_step HB3.out hb4); have HC8d := Aside0.mk (Kd.C_below HC8c.out hb4); have HC10b := Aside0.mk (Kd.C_below HC10.out hb4); have HA5 := Aside0.mk (H6b.out W4 A11 c11 (Kd.C_below HC0.out HB4.out) hc11 hC11 (by have := HLEN.out; omega)); clear hC11 hc11 hb4)
      | (go_at_call 38; (with_reducible refine HA5.out.mono ?_); rintro e W5 ⟨A12, c12, rfl, hC12, hc12, hb5⟩; have HB5 := Aside0.mk (below_step HB4.out hb5); have HC8e := Aside0.mk (Kd.C_below HC8d.out hb5); have HC10c := Aside0.mk (Kd.C_below HC10b.out hb5); have HC12 := Aside0.mk hC12; have HN12 := Aside0.mk hc12; clear hC12 hc12 hb5))
    have HA6 := Aside0.mk (H7.out W5 A8 c8 HC8e.out HN8.out (by have := HLEN.out; omega))
    clear HA4 HA5 HC8c HC8d HC10 HC10b
    go_upto_region 8 with (go_at_call 38; (with_reducible refine HA6.out.mono ?_); rintro e W6 ⟨A13, c13, rfl, hC13, hc13, hb6⟩; have HB6 := Aside0.mk (below_step HB5.out hb6); have HC8f := Aside0.mk (Kd.C_below HC8e.out hb6); have HC10d := Aside0.mk (Kd.C_below HC10c.out hb6); have HC12b := Aside0.mk (Kd.C_below HC12.out hb6); have HC13 := Aside0.mk hC13; have HN13 := Aside0.mk hc13; clear hC13 hc13 hb6)
    clear HA6 HC8e HC10c HC12
    have G1 := fun W hm hl => lysimeterref11_SameSamples.calls k A8 c8 m A10 c10 ml true W hm HN8.out hl HN10.out HS.out.1
    have G2 := fun W hm hl => lysimeterref11_SameSamples.calls k A8 c8 m A12 c12 mr true W hm HN8.out hl HN12.out HS.out.2.1
    have G3 := fun W hm hl => lysimeterref11_SameSamples.calls k A8 c8 m A13 c13 ma true W hm HN8.out hl HN13.out HS.out.2.2
    have K1 := Aside0.mk G1
    have K2 := Aside0.mk G2
    have K3 := Aside0.mk G3
    clear G1 G2 G3
    go_wp2_with (first
      | (go_at_call 39; (with_reducible refine (K1.out _ (by first | exact HC8f.out | exact Kd.C_below HC8f.out (by repeat (first | exact Below.refl _ _ | apply pw_below_drewN | apply below_drew1))) (by first | exact HC10d.out | exact Kd.C_below HC10d.out (by repeat (first | exact Below.refl _ _ | apply pw_below_drewN | apply below_drew1)))).mono ?_); rintro e W7 ⟨rfl, n7, rfl⟩)
      | (go_at_call 39; (with_reducible refine (K2.out _ (by exact Kd.C_below HC8f.out (by repeat (first | exact Below.refl _ _ | apply pw_below_drewN | apply below_drew1))) (by exact Kd.C_below HC12b.out (by repeat (first | exact Below.refl _ _ | apply pw_below_drewN | apply below_drew1)))).mono ?_); rintro e W8 ⟨rfl, n8, rfl⟩)
      | (go_at_call 39; (with_reducible refine (K3.out _ (by exact Kd.C_below HC8f.out (by repeat (first | exact Below.refl _ _ | apply pw_below_drewN | apply below_drew1))) (by exact Kd.C_below HC13.out (by repeat (first | exact Below.refl _ _ | apply pw_below_drewN | apply below_drew1)))).mono ?_); rintro e W9 ⟨rfl, n9, rfl⟩))
    go_ret
    exact ⟨rfl, by repeat (first | exact HB6.out | apply pw_below_drewN | apply below_drew1)⟩
end

/-- The one pure statement of lysimeterlaw18_MergeTwice. -/
def lysimeterlaw18_MergeTwice.Pure : Prop := ∀ (l0 : List (S54)) (l1 : List (S54)) (l2 : List (S54)), (l0.length * 16 ≤ reachBytes ∧ ∀ y0_ ∈ l0, ((Lit.int .i64 y0_.f0).wf = true ∧ (Lit.int .i64 y0_.f1).wf = true)) → (l1.length * 16 ≤ reachBytes ∧ ∀ y0_ ∈ l1, ((Lit.int .i64 y0_.f0).wf = true ∧ (Lit.int .i64 y0_.f1).wf = true)) → (l2.length * 16 ≤ reachBytes ∧ ∀ y0_ ∈ l2, ((Lit.int .i64 y0_.f0).wf = true ∧ (Lit.int .i64 y0_.f1).wf = true)) → ∃ k, lysimeterlaw18_MergeTwice.f k l0 l1 l2 = some true
theorem lysimeterlaw18_MergeTwice.walk (P : lysimeterlaw18_MergeTwice.Pure) (A0 : Option Addr) (c0 : Nat) (l0 : List (S54)) (A1 : Option Addr) (c1 : Nat) (l1 : List (S54)) (A2 : Option Addr) (c2 : Nat) (l2 : List (S54)) (w : World) (hr0 : Kd.C k54 w A0 l0.length l0) (hc0 : l0.length ≤ c0) (g0 : (l0.length * 16 ≤ reachBytes ∧ ∀ y0_ ∈ l0, ((Lit.int .i64 y0_.f0).wf = true ∧ (Lit.int .i64 y0_.f1).wf = true))) (hr1 : Kd.C k54 w A1 l1.length l1) (hc1 : l1.length ≤ c1) (g1 : (l1.length * 16 ≤ reachBytes ∧ ∀ y0_ ∈ l1, ((Lit.int .i64 y0_.f0).wf = true ∧ (Lit.int .i64 y0_.f1).wf = true))) (hr2 : Kd.C k54 w A2 l2.length l2) (hc2 : l2.length ≤ c2) (g2 : (l2.length * 16 ≤ reachBytes ∧ ∀ y0_ ∈ l2, ((Lit.int .i64 y0_.f0).wf = true ∧ (Lit.int .i64 y0_.f1).wf = true))) :
    Calls Try.prog 8 #[.slice A0 l0.length c0, .slice A1 l1.length c1, .slice A2 l2.length c2] w fun e w' => e = .returned (.bool true) ∧ Below w.heap.size w w' := by
  obtain ⟨k, h⟩ := P l0 l1 l2 g0 g1 g2
  refine (lysimeterlaw18_MergeTwice.calls k _ _ l0 _ _ l1 _ _ l2 true w hr0 hc0 hr1 hc1 hr2 hc2 rfl h).mono ?_
  rintro e w' ⟨rfl, hd⟩
  exact ⟨rfl, hd⟩

end Go.Proofs.Ytjilnpbgclnecac.PMergeTwice
