/- Written by a program of this session out of the translation: for Go functions Lean functions of the same answers, and the proof that the calls come to these answers. -/
import Derived.Test.YtjilnpbgclnecaaPVarintGetsx0
import Derived.Test.YtjilnpbgclnecaaPVarintGetsx1
namespace Go.Proofs.Ytjilnpbgclnecaa.PVarintGets
open Go.RowKit Go.Proofs.YtjilnpbgclnecaaW.PrintWords Go.Proofs.YtjilnpbgclnecaaW.PrintLast Go.Proofs.YtjilnpbgclnecaaW.PrintMore Go.Proofs.Ytjilnpbgclnecaa.XB
attribute [local go_sem] sg_u8 sg_u16 sg_u32 sg_u64 mx_u8 mx_u16 mx_u32 mx_u64
attribute [local go_sem] max2_int min2_int max_two min_two max_three min_three max_four min_four   -- for this text's walks alone
set_option linter.unusedVariables false
set_option linter.unusedSimpArgs false

/-! ### lysimeterref4_GetSigned: function 27 -/
def lysimeterref4_GetSigned.f (k : Nat) (l0 : List Int) : Option (Int × Int × Int) := (lysimeterref4_Get.f k l0).bind fun bt125 => (if bt125.2.2 = 0 then ((lysimeterref4_Zag.f bt125.1).bind fun t128 => (some (t128, bt125.2.1, 0))) else (some (0, 0, bt125.2.2)))
theorem lysimeterref4_GetSigned.mono : ∀ a0 k, LeO (lysimeterref4_GetSigned.f k a0) (lysimeterref4_GetSigned.f (k + 1) a0) := by
  intro a0 k
  unfold lysimeterref4_GetSigned.f
  repeat' first
      | (with_reducible exact lysimeterref4_Get.mono _ _)
      | (with_reducible exact LeO.refl _)
      | (with_reducible exact LeO.none _)
      | (with_reducible refine LeO.ite ?_ ?_)
      | (with_reducible refine LeO.bind ?_ (fun _ => ?_))
      | exact lysimeterref4_Get.mono _ _
      | exact LeO.none _
      | refine LeO.ite ?_ ?_
      | refine LeO.bind ?_ (fun _ => ?_)
set_option maxHeartbeats 8000000 in
set_option maxRecDepth 100000 in
theorem lysimeterref4_GetSigned.calls (k : Nat) (A0 : Option Addr) (c0 : Nat) (l0 : List Int) (r1 : Int) (r2 : Int) (r3 : Int) (w : World) (hr0 : Kd.C (Kd.int .u8) w A0 l0.length l0) (hc0 : l0.length ≤ c0) (h : lysimeterref4_GetSigned.f k l0 = some (r1, r2, r3)) :
    Calls Try.prog 27 #[.slice A0 l0.length c0] w fun e w' => e = .returned (.tuple #[.int .i64 r1, .int .i64 r2, .int .i64 r3]) ∧ Drawn0 w w' := by
  have HR0 := Aside0.mk hr0
  have HC0 := Aside0.mk hc0
  clear hr0 hc0
  have H : ((lysimeterref4_Get.f k l0).bind fun bt125 => (if bt125.2.2 = 0 then ((lysimeterref4_Zag.f bt125.1).bind fun t128 => (some (t128, bt125.2.1, 0))) else (some (0, 0, bt125.2.2)))) = some (r1, r2, r3) := h
  clear h
  replace H := Option.bind_eq_some_iff.mp H
  obtain ⟨⟨t125, t126, t127⟩, A20, H⟩ := H
  replace H : (if t127 = 0 then ((lysimeterref4_Zag.f t125).bind fun t128 => (some (t128, t126, 0))) else (some (0, 0, t127))) = some (r1, r2, r3) := H
  have A2 := Aside0.mk A20
  clear A20
  by_cases c3 : t127 = 0
  · rw [if_pos c3] at H
    have c3b0 : (t127 == 0) = true := beq_iff_eq.mpr c3
    have c3b1 : (t127 != 0) = false := bne_eq_false_iff_eq.mpr c3
    clear c3
    replace H := Option.bind_eq_some_iff.mp H
    obtain ⟨t128, A40, H⟩ := H
    replace H : (some (t128, t126, 0)) = some (r1, r2, r3) := H
    have A4 := Aside0.mk A40
    clear A40
    simp only [Option.some.injEq, Prod.mk.injEq] at H
    obtain ⟨rfl, rfl, rfl⟩ := H
    go_enter Try.func27, Try.ntmps27
    go_wp2_with (first | ((with_reducible refine gate_callee (f := 25) rfl ?_); refine goesL_ (some 10) rfl rfl Try.func25 (by kernel_rfl) rfl #[.slice A0 l0.length c0] rfl (by (try simp only [List.map_toArray, List.map_cons, List.map_nil]); first | done | rfl | (simp only [List.length_drop, List.length_take]; rfl)) ?_; (with_reducible refine (lysimeterref4_Get.calls k _ _ l0 t125 t126 t127 _ ?side1 ?side2 A2.out).mono ?_); (case side1 => repeat (first | exact HR0.out | (with_reducible refine Kd.C_alloc ?_ _) | (with_reducible refine Kd.C_drewN ?_ _) | (with_reducible refine Kd.C_drew ?_))); (case side2 => exact HC0.out); rintro e w' ⟨rfl, ⟨nd, rfl⟩⟩; refine ⟨_, rfl, ?_⟩) | ((with_reducible refine gate_callee (f := 24) rfl ?_); refine goesL_ (some 18) rfl rfl Try.func24 (by kernel_rfl) rfl #[.int .i64 t125] rfl (by (try simp only [List.map_toArray, List.map_cons, List.map_nil]); first | done | rfl | (simp only [List.length_drop, List.length_take]; rfl)) ?_; (with_reducible refine (lysimeterref4_Zag.calls t125 t128 _ A4.out).mono ?_); rintro e w' ⟨rfl, ⟨nd, rfl⟩⟩; refine ⟨_, rfl, ?_⟩))
    go_ret3
    exact ⟨by first | rfl | (simp; done) | (simp [*]; done), by repeat (first | exact Drawn0.refl _ | apply Drawn0.step)⟩
  · rw [if_neg c3] at H
    have c3b0 : (t127 == 0) = false := beq_eq_false_iff_ne.mpr c3
    have c3b1 : (t127 != 0) = true := bne_iff_ne.mpr c3
    simp only [Option.some.injEq, Prod.mk.injEq] at H
    obtain ⟨rfl, rfl, rfl⟩ := H
    go_enter Try.func27, Try.ntmps27
    go_wp2_with (first | ((with_reducible refine gate_callee (f := 25) rfl ?_); refine goesL_ (some 10) rfl rfl Try.func25 (by kernel_rfl) rfl #[.slice A0 l0.length c0] rfl (by (try simp only [List.map_toArray, List.map_cons, List.map_nil]); first | done | rfl | (simp only [List.length_drop, List.length_take]; rfl)) ?_; (with_reducible refine (lysimeterref4_Get.calls k _ _ l0 t125 t126 t127 _ ?side1 ?side2 A2.out).mono ?_); (case side1 => repeat (first | exact HR0.out | (with_reducible refine Kd.C_alloc ?_ _) | (with_reducible refine Kd.C_drewN ?_ _) | (with_reducible refine Kd.C_drew ?_))); (case side2 => exact HC0.out); rintro e w' ⟨rfl, ⟨nd, rfl⟩⟩; refine ⟨_, rfl, ?_⟩))
    go_ret3
    exact ⟨by first | rfl | (simp; done) | (simp [*]; done), by repeat (first | exact Drawn0.refl _ | apply Drawn0.step)⟩

/-! ### lysimeterlaw5_VarintGets: function 6 -/
def lysimeterlaw5_VarintGets.j0 : Nat → List Int → Bool → Bool → Option (Bool)
  | 0, _, _, _ => none
  | k + 1, x0, x3, x23 => if x23 = true then (some x3) else ((varint_Get.f k x0).bind fun bt130 => ((lysimeterref4_Get.f k x0).bind fun bt133 => ((varint_GetSigned.f k x0).bind fun bt136 => ((lysimeterref4_GetSigned.f k x0).bind fun bt139 => ((lysimeterlaw5_num.f bt130.2.2).bind fun t142 => (if t142 = bt133.2.2 then (if bt130.1 = bt133.1 then (if bt130.2.1 = bt133.2.1 then ((lysimeterlaw5_num.f bt136.2.2).bind fun t143 => (if t143 = bt139.2.2 then (if bt136.1 = bt139.1 then (some (bt136.2.1 == bt139.2.1)) else (some false)) else (some false))) else (some false)) else (some false)) else (some false)))))))
def lysimeterlaw5_VarintGets.f (k : Nat) (l0 : List Int) : Option (Bool) := (lysimeterlaw5_alive.f k).bind fun t129 => (if t129 = true then (lysimeterlaw5_VarintGets.j0 k l0 t129 (decide ((l0.length : Int) > 1000))) else (lysimeterlaw5_VarintGets.j0 k l0 t129 true))
theorem lysimeterlaw5_VarintGets.mono_l : ∀ k, (∀ y0 y1 y2, LeO (lysimeterlaw5_VarintGets.j0 k y0 y1 y2) (lysimeterlaw5_VarintGets.j0 (k + 1) y0 y1 y2))
  | 0 => fun _ _ _ r h => by simp [lysimeterlaw5_VarintGets.j0] at h
  | k + 1 => by
    have ih0 := lysimeterlaw5_VarintGets.mono_l k
    · intro y0 y1 y2
      unfold lysimeterlaw5_VarintGets.j0
      repeat' first
      | (with_reducible exact ih0 _ _ _)
      | (with_reducible exact lysimeterlaw5_alive.mono _)
      | (with_reducible exact lysimeterref4_Get.mono _ _)
      | (with_reducible exact lysimeterref4_GetSigned.mono _ _)
      | (with_reducible exact varint_Get.mono _ _)
      | (with_reducible exact varint_GetSigned.mono _ _)
      | (with_reducible exact LeO.refl _)
      | (with_reducible exact LeO.none _)
      | (with_reducible refine LeO.ite ?_ ?_)
      | (with_reducible refine LeO.bind ?_ (fun _ => ?_))
      | exact ih0 _ _ _
      | exact lysimeterlaw5_alive.mono _
      | exact lysimeterref4_Get.mono _ _
      | exact lysimeterref4_GetSigned.mono _ _
      | exact varint_Get.mono _ _
      | exact varint_GetSigned.mono _ _
      | exact LeO.none _
      | refine LeO.ite ?_ ?_
      | refine LeO.bind ?_ (fun _ => ?_)
theorem lysimeterlaw5_VarintGets.mono : ∀ a0 k, LeO (lysimeterlaw5_VarintGets.f k a0) (lysimeterlaw5_VarintGets.f (k + 1) a0) := by
  intro a0 k
  have ih0 := lysimeterlaw5_VarintGets.mono_l k
  unfold lysimeterlaw5_VarintGets.f
  repeat' first
      | (with_reducible exact ih0 _ _ _)
      | (with_reducible exact lysimeterlaw5_alive.mono _)
      | (with_reducible exact lysimeterref4_Get.mono _ _)
      | (with_reducible exact lysimeterref4_GetSigned.mono _ _)
      | (with_reducible exact varint_Get.mono _ _)
      | (with_reducible exact varint_GetSigned.mono _ _)
      | (with_reducible exact LeO.refl _)
      | (with_reducible exact LeO.none _)
      | (with_reducible refine LeO.ite ?_ ?_)
      | (with_reducible refine LeO.bind ?_ (fun _ => ?_))
      | exact ih0 _ _ _
      | exact lysimeterlaw5_alive.mono _
      | exact lysimeterref4_Get.mono _ _
      | exact lysimeterref4_GetSigned.mono _ _
      | exact varint_Get.mono _ _
      | exact varint_GetSigned.mono _ _
      | exact LeO.none _
      | refine LeO.ite ?_ ?_
      | refine LeO.bind ?_ (fun _ => ?_)
set_option maxHeartbeats 8000000 in
set_option maxRecDepth 100000 in
theorem lysimeterlaw5_VarintGets.calls (k : Nat) (A0 : Option Addr) (c0 : Nat) (l0 : List Int) (r : Bool) (w : World) (hr0 : Kd.C (Kd.int .u8) w A0 l0.length l0) (hc0 : l0.length ≤ c0) (hr_ : r = true) (h : lysimeterlaw5_VarintGets.f k l0 = some r) :
    Calls Try.prog 6 #[.slice A0 l0.length c0] w fun e w' => e = .returned (.bool r) ∧ Below w.heap.size w w' := by
  have Hr_ := Aside0.mk hr_
  clear hr_
  have HR0 := Aside0.mk hr0
  have HC0 := Aside0.mk hc0
  clear hr0 hc0
  have HB := Aside0.mk (Below.refl w.heap.size w)
  have H : ((lysimeterlaw5_alive.f k).bind fun t129 => (if t129 = true then (lysimeterlaw5_VarintGets.j0 k l0 t129 (decide ((l0.length : Int) > 1000))) else (lysimeterlaw5_VarintGets.j0 k l0 t129 true))) = some r := h
  clear h
  replace H := Option.bind_eq_some_iff.mp H
  obtain ⟨t129, A20, H⟩ := H
  replace H : (if t129 = true then (lysimeterlaw5_VarintGets.j0 k l0 t129 (decide ((l0.length : Int) > 1000))) else (lysimeterlaw5_VarintGets.j0 k l0 t129 true)) = some r := H
  have A2 := Aside0.mk A20
  clear A20
  have HC3 := Aside0.mk H
  clear H
  go_enter Try.func6, Try.ntmps6
  go_upto_region 2 with (first | ((with_reducible refine gate_callee (f := 17) rfl ?_); refine goesL_ (some 16) rfl rfl Try.func17 (by kernel_rfl) rfl #[] rfl (by (try simp only [List.map_toArray, List.map_cons, List.map_nil]); first | done | rfl | (simp only [List.length_drop, List.length_take]; rfl)) ?_; (with_reducible refine (lysimeterlaw5_alive.calls k  t129 _ A2.out).mono ?_); rintro e w4 ⟨rfl, hb⟩; refine ⟨_, rfl, ?_⟩; have n0_ := Aside0.mk (below_step (by repeat (first | (with_reducible first | exact HB.out | apply below_alloc | apply pw_below_drewN | apply below_drew1) | exact HB.out)) hb); clear HB; have HB := n0_; clear n0_; (try clear hb); (try clear hb2); (try clear hk); (try clear hi)))
  (try simp only [Act.put, List.setIfInBounds_toArray, List.set_cons_zero, List.set_cons_succ])
  go_cut [23] (fun v23 wc => ∃ (kq : Nat) (x23_2 : Bool), v23 = .bool x23_2 ∧ Aside0 (lysimeterlaw5_VarintGets.j0 kq l0 t129 x23_2 = some r) ∧ Aside0 (kq ≤ k) ∧ Aside0 (Below w.heap.size w wc))
  case first =>
    have H := HC3.out
    clear HC3
    by_cases c5 : t129 = true
    · subst c5
      have H1 : (lysimeterlaw5_VarintGets.j0 k l0 true (decide ((l0.length : Int) > 1000))) = some r := by rw [if_pos rfl] at H; exact H
      clear H
      have H := H1
      clear H1
      have H' := Aside0.mk H
      clear H
      go_wp2
      go_meet
      case rel => exact ⟨_, (decide ((l0.length : Int) > 1000)), (by first | rfl | (simp; done) | (simp [*]; done)), H', ⟨by first | omega | exact Nat.le_refl _⟩, ⟨by repeat (first | (with_reducible first | exact HB.out | apply below_alloc | apply pw_below_drewN | apply below_drew1) | exact HB.out)⟩⟩
    · replace c5 := Bool.eq_false_iff.mpr c5
      subst c5
      have H1 : (lysimeterlaw5_VarintGets.j0 k l0 false true) = some r := by rw [if_neg (show ¬ (false = true) by decide)] at H; exact H
      clear H
      have H := H1
      clear H1
      have H' := Aside0.mk H
      clear H
      go_wp2
      go_meet
      case rel => exact ⟨_, (true), (by first | rfl | (simp; done) | (simp [*]; done)), H', ⟨by first | omega | exact Nat.le_refl _⟩, ⟨by repeat (first | (with_reducible first | exact HB.out | apply below_alloc | apply pw_below_drewN | apply below_drew1) | exact HB.out)⟩⟩
  case rest =>
    clear HC3
    try clear c1
    try clear p2
    try clear c5
    obtain ⟨kq, x23_2, rfl, HA, HJ2, HB⟩ := hcut
    cases kq with
    | zero => exact absurd HA.out (by simp [lysimeterlaw5_VarintGets.j0])
    | succ kj2 =>
      have H := HA.out
      clear HA
      simp only [lysimeterlaw5_VarintGets.j0] at H
      by_cases c6 : x23_2 = true
      · subst c6
        have H1 : (some t129) = some r := by rw [if_pos rfl] at H; exact H
        clear H
        have H := H1
        clear H1
        obtain rfl := Option.some.inj H
        go_wp2
        go_ret
        exact ⟨by first | rfl | (simp [errW_none, errW_some] <;> rfl) | (simp [*, errW_none, errW_some] <;> rfl), by repeat (first | (with_reducible first | exact HB.out | apply below_alloc | apply pw_below_drewN | apply below_drew1) | exact HB.out)⟩
      · replace c6 := Bool.eq_false_iff.mpr c6
        subst c6
        have H1 : ((varint_Get.f kj2 l0).bind fun bt130 => ((lysimeterref4_Get.f kj2 l0).bind fun bt133 => ((varint_GetSigned.f kj2 l0).bind fun bt136 => ((lysimeterref4_GetSigned.f kj2 l0).bind fun bt139 => ((lysimeterlaw5_num.f bt130.2.2).bind fun t142 => (if t142 = bt133.2.2 then (if bt130.1 = bt133.1 then (if bt130.2.1 = bt133.2.1 then ((lysimeterlaw5_num.f bt136.2.2).bind fun t143 => (if t143 = bt139.2.2 then (if bt136.1 = bt139.1 then (some (bt136.2.1 == bt139.2.1)) else (some false)) else (some false))) else (some false)) else (some false)) else (some false))))))) = some r := by rw [if_neg (show ¬ (false = true) by decide)] at H; exact H
        clear H
        have H := H1
        clear H1
        replace H := Option.bind_eq_some_iff.mp H
        obtain ⟨⟨t130, t131, t132⟩, A70, H⟩ := H
        replace H : ((lysimeterref4_Get.f kj2 l0).bind fun bt133 => ((varint_GetSigned.f kj2 l0).bind fun bt136 => ((lysimeterref4_GetSigned.f kj2 l0).bind fun bt139 => ((lysimeterlaw5_num.f t132).bind fun t142 => (if t142 = bt133.2.2 then (if t130 = bt133.1 then (if t131 = bt133.2.1 then ((lysimeterlaw5_num.f bt136.2.2).bind fun t143 => (if t143 = bt139.2.2 then (if bt136.1 = bt139.1 then (some (bt136.2.1 == bt139.2.1)) else (some false)) else (some false))) else (some false)) else (some false)) else (some false)))))) = some r := H
        have A7 := Aside0.mk A70
        clear A70
        replace H := Option.bind_eq_some_iff.mp H
        obtain ⟨⟨t133, t134, t135⟩, A80, H⟩ := H
        replace H : ((varint_GetSigned.f kj2 l0).bind fun bt136 => ((lysimeterref4_GetSigned.f kj2 l0).bind fun bt139 => ((lysimeterlaw5_num.f t132).bind fun t142 => (if t142 = t135 then (if t130 = t133 then (if t131 = t134 then ((lysimeterlaw5_num.f bt136.2.2).bind fun t143 => (if t143 = bt139.2.2 then (if bt136.1 = bt139.1 then (some (bt136.2.1 == bt139.2.1)) else (some false)) else (some false))) else (some false)) else (some false)) else (some false))))) = some r := H
        have A8 := Aside0.mk A80
        clear A80
        replace H := Option.bind_eq_some_iff.mp H
        obtain ⟨⟨t136, t137, t138⟩, A90, H⟩ := H
        replace H : ((lysimeterref4_GetSigned.f kj2 l0).bind fun bt139 => ((lysimeterlaw5_num.f t132).bind fun t142 => (if t142 = t135 then (if t130 = t133 then (if t131 = t134 then ((lysimeterlaw5_num.f t138).bind fun t143 => (if t143 = bt139.2.2 then (if t136 = bt139.1 then (some (t137 == bt139.2.1)) else (some false)) else (some false))) else (some false)) else (some false)) else (some false)))) = some r := H
        have A9 := Aside0.mk A90
        clear A90
        replace H := Option.bind_eq_some_iff.mp H
        obtain ⟨⟨t139, t140, t141⟩, A100, H⟩ := H
        replace H : ((lysimeterlaw5_num.f t132).bind fun t142 => (if t142 = t135 then (if t130 = t133 then (if t131 = t134 then ((lysimeterlaw5_num.f t138).bind fun t143 => (if t143 = t141 then (if t136 = t139 then (some (t137 == t140)) else (some false)) else (some false))) else (some false)) else (some false)) else (some false))) = some r := H
        have A10 := Aside0.mk A100
        clear A100
        replace H := Option.bind_eq_some_iff.mp H
        obtain ⟨t142, A110, H⟩ := H
        replace H : (if t142 = t135 then (if t130 = t133 then (if t131 = t134 then ((lysimeterlaw5_num.f t138).bind fun t143 => (if t143 = t141 then (if t136 = t139 then (some (t137 == t140)) else (some false)) else (some false))) else (some false)) else (some false)) else (some false)) = some r := H
        have A11 := Aside0.mk A110
        clear A110
        by_cases c12 : t142 = t135
        · rw [if_pos c12] at H
          have c12b0 : (t142 == t135) = true := beq_iff_eq.mpr c12
          have c12b1 : (t142 != t135) = false := bne_eq_false_iff_eq.mpr c12
          clear c12
          by_cases c13 : t130 = t133
          · rw [if_pos c13] at H
            have c13b0 : (t130 == t133) = true := beq_iff_eq.mpr c13
            have c13b1 : (t130 != t133) = false := bne_eq_false_iff_eq.mpr c13
            clear c13
            by_cases c14 : t131 = t134
            · rw [if_pos c14] at H
              have c14b0 : (t131 == t134) = true := beq_iff_eq.mpr c14
              have c14b1 : (t131 != t134) = false := bne_eq_false_iff_eq.mpr c14
              clear c14
              replace H := Option.bind_eq_some_iff.mp H
              obtain ⟨t143, A150, H⟩ := H
              replace H : (if t143 = t141 then (if t136 = t139 then (some (t137 == t140)) else (some false)) else (some false)) = some r := H
              have A15 := Aside0.mk A150
              clear A150
              by_cases c16 : t143 = t141
              · rw [if_pos c16] at H
                have c16b0 : (t143 == t141) = true := beq_iff_eq.mpr c16
                have c16b1 : (t143 != t141) = false := bne_eq_false_iff_eq.mpr c16
                clear c16
                by_cases c17 : t136 = t139
                · rw [if_pos c17] at H
                  have c17b0 : (t136 == t139) = true := beq_iff_eq.mpr c17
                  have c17b1 : (t136 != t139) = false := bne_eq_false_iff_eq.mpr c17
                  clear c17
                  obtain rfl := Option.some.inj H
                  go_wp2_with (first | ((with_reducible refine gate_callee (f := 19) rfl ?_); refine goesL_ (some 27) rfl rfl Try.func19 (by kernel_rfl) rfl #[.slice A0 l0.length c0] rfl (by (try simp only [List.map_toArray, List.map_cons, List.map_nil]); first | done | rfl | (simp only [List.length_drop, List.length_take]; rfl)) ?_; (with_reducible refine (varint_Get.calls kj2 _ _ l0 t130 t131 t132 _ ?side1 ?side2 A7.out).mono ?_); (case side1 => repeat (first | exact (Kd.C_below HR0.out HB.out) | (with_reducible refine Kd.C_alloc ?_ _) | (with_reducible refine Kd.C_drewN ?_ _) | (with_reducible refine Kd.C_drew ?_))); (case side2 => exact HC0.out); rintro e w' ⟨rfl, ⟨nd, rfl⟩⟩; refine ⟨_, rfl, ?_⟩) | ((with_reducible refine gate_callee (f := 25) rfl ?_); refine goesL_ (some 33) rfl rfl Try.func25 (by kernel_rfl) rfl #[.slice A0 l0.length c0] rfl (by (try simp only [List.map_toArray, List.map_cons, List.map_nil]); first | done | rfl | (simp only [List.length_drop, List.length_take]; rfl)) ?_; (with_reducible refine (lysimeterref4_Get.calls kj2 _ _ l0 t133 t134 t135 _ ?side1 ?side2 A8.out).mono ?_); (case side1 => repeat (first | exact (Kd.C_below HR0.out (by repeat (first | (with_reducible first | exact HB.out | apply below_alloc | apply pw_below_drewN | apply below_drew1) | exact HB.out))) | (with_reducible refine Kd.C_alloc ?_ _) | (with_reducible refine Kd.C_drewN ?_ _) | (with_reducible refine Kd.C_drew ?_))); (case side2 => exact HC0.out); rintro e w' ⟨rfl, ⟨nd, rfl⟩⟩; refine ⟨_, rfl, ?_⟩) | ((with_reducible refine gate_callee (f := 26) rfl ?_); refine goesL_ (some 39) rfl rfl Try.func26 (by kernel_rfl) rfl #[.slice A0 l0.length c0] rfl (by (try simp only [List.map_toArray, List.map_cons, List.map_nil]); first | done | rfl | (simp only [List.length_drop, List.length_take]; rfl)) ?_; (with_reducible refine (varint_GetSigned.calls kj2 _ _ l0 t136 t137 t138 _ ?side1 ?side2 A9.out).mono ?_); (case side1 => repeat (first | exact (Kd.C_below HR0.out (by repeat (first | (with_reducible first | exact HB.out | apply below_alloc | apply pw_below_drewN | apply below_drew1) | exact HB.out))) | (with_reducible refine Kd.C_alloc ?_ _) | (with_reducible refine Kd.C_drewN ?_ _) | (with_reducible refine Kd.C_drew ?_))); (case side2 => exact HC0.out); rintro e w' ⟨rfl, ⟨nd, rfl⟩⟩; refine ⟨_, rfl, ?_⟩) | ((with_reducible refine gate_callee (f := 27) rfl ?_); refine goesL_ (some 45) rfl rfl Try.func27 (by kernel_rfl) rfl #[.slice A0 l0.length c0] rfl (by (try simp only [List.map_toArray, List.map_cons, List.map_nil]); first | done | rfl | (simp only [List.length_drop, List.length_take]; rfl)) ?_; (with_reducible refine (lysimeterref4_GetSigned.calls kj2 _ _ l0 t139 t140 t141 _ ?side1 ?side2 A10.out).mono ?_); (case side1 => repeat (first | exact (Kd.C_below HR0.out (by repeat (first | (with_reducible first | exact HB.out | apply below_alloc | apply pw_below_drewN | apply below_drew1) | exact HB.out))) | (with_reducible refine Kd.C_alloc ?_ _) | (with_reducible refine Kd.C_drewN ?_ _) | (with_reducible refine Kd.C_drew ?_))); (case side2 => exact HC0.out); rintro e w' ⟨rfl, ⟨nd, rfl⟩⟩; refine ⟨_, rfl, ?_⟩) | ((with_reducible refine gate_callee (f := 20) rfl ?_); refine goesL_ (some 50) rfl rfl Try.func20 (by kernel_rfl) rfl #[.int .i64 t132] rfl (by (try simp only [List.map_toArray, List.map_cons, List.map_nil]); first | done | rfl | (simp only [List.length_drop, List.length_take]; rfl)) ?_; (with_reducible refine (lysimeterlaw5_num.calls t132 t142 _ A11.out).mono ?_); rintro e w' ⟨rfl, ⟨nd, rfl⟩⟩; refine ⟨_, rfl, ?_⟩) | (go_at_call 20; (with_reducible refine (lysimeterlaw5_num.calls t138 t143 _ A15.out).mono ?_); rintro e w' ⟨rfl, ⟨nd, rfl⟩⟩))
                  go_ret
                  exact ⟨by first | rfl | (simp [errW_none, errW_some] <;> rfl) | (simp [*, errW_none, errW_some] <;> rfl), by repeat (first | (with_reducible first | exact HB.out | apply below_alloc | apply pw_below_drewN | apply below_drew1) | exact HB.out)⟩
                · rw [if_neg c17] at H
                  have c17b0 : (t136 == t139) = false := beq_eq_false_iff_ne.mpr c17
                  have c17b1 : (t136 != t139) = true := bne_iff_ne.mpr c17
                  exact absurd ((Option.some.inj H).trans Hr_.out) (by simp)
              · rw [if_neg c16] at H
                have c16b0 : (t143 == t141) = false := beq_eq_false_iff_ne.mpr c16
                have c16b1 : (t143 != t141) = true := bne_iff_ne.mpr c16
                exact absurd ((Option.some.inj H).trans Hr_.out) (by simp)
            · rw [if_neg c14] at H
              have c14b0 : (t131 == t134) = false := beq_eq_false_iff_ne.mpr c14
              have c14b1 : (t131 != t134) = true := bne_iff_ne.mpr c14
              exact absurd ((Option.some.inj H).trans Hr_.out) (by simp)
          · rw [if_neg c13] at H
            have c13b0 : (t130 == t133) = false := beq_eq_false_iff_ne.mpr c13
            have c13b1 : (t130 != t133) = true := bne_iff_ne.mpr c13
            exact absurd ((Option.some.inj H).trans Hr_.out) (by simp)
        · rw [if_neg c12] at H
          have c12b0 : (t142 == t135) = false := beq_eq_false_iff_ne.mpr c12
          have c12b1 : (t142 != t135) = true := bne_iff_ne.mpr c12
          exact absurd ((Option.some.inj H).trans Hr_.out) (by simp)

/-- THE ONE PURE STATEMENT of lysimeterlaw5_VarintGets: yours. -/
def lysimeterlaw5_VarintGets.Pure : Prop := ∀ (l0 : List Int), l0.length ≤ maxLen → l0.length * 1 ≤ 140737488351232 → (∀ x ∈ l0, (Lit.int .u8 x).wf = true) → ∃ k, lysimeterlaw5_VarintGets.f k l0 = some true
theorem lysimeterlaw5_VarintGets.walk (P : lysimeterlaw5_VarintGets.Pure) (a0 : Option Addr) (len0 cap0 : Nat) (z0 : List Int) (w : World) (w0 : (a0 = none ∧ len0 = 0 ∧ cap0 = 0 ∧ z0 = []) ∨ ∃ x, a0 = some x ∧ len0 ≤ cap0 ∧ cap0 ≤ maxLen ∧ z0.length = cap0 ∧ (∀ i, i < z0.length → w.cell? (x.add i) = some (.int .u8 (z0.getD i 0))) ∧ ∀ n ∈ z0, (Lit.int .u8 n).wf = true) (y0 : len0 * 1 ≤ 140737488351232) :
    Calls Try.prog 6 #[.slice a0 len0 cap0] w fun e w' => e = .returned (.bool true) ∧ Below w.heap.size w w' := by
  obtain ⟨l0, rfl, hr0, hm0, hw0, hc0⟩ := ReadsInt.ofRowC w0
  obtain ⟨k, h⟩ := P l0 hm0 y0 hw0
  refine (lysimeterlaw5_VarintGets.calls k _ _ l0 true w (Kd.C_of_reads (d := (0 : Int)) (h1 := fun _ => rfl) hr0) hc0 rfl h).mono ?_
  rintro e w' ⟨rfl, hd⟩
  exact ⟨rfl, hd⟩

end Go.Proofs.Ytjilnpbgclnecaa.PVarintGets
