/- Written by a program of this session out of the translation: for Go functions Lean functions of the same answers, and the proof that the calls come to these answers. -/
import Derived.Test.YtjilnpbgclnecaaPFrameTornx0
import Derived.Test.YtjilnpbgclnecaaPFrameTornx1
import Derived.Test.YtjilnpbgclnecaaPFrameTornx2
namespace Go.Proofs.Ytjilnpbgclnecaa.PFrameTorn
open Go.RowKit Go.Proofs.YtjilnpbgclnecaaW.PrintWords Go.Proofs.YtjilnpbgclnecaaW.PrintLast Go.Proofs.YtjilnpbgclnecaaW.PrintMore Go.Proofs.Ytjilnpbgclnecaa.XB
attribute [local go_sem] sg_u8 sg_u16 sg_u32 sg_u64 mx_u8 mx_u16 mx_u32 mx_u64
attribute [local go_sem] max2_int min2_int max_two min_two max_three min_three max_four min_four   -- for this text's walks alone
set_option linter.unusedVariables false
set_option linter.unusedSimpArgs false

/-! ### lysimeterlaw9_FrameTorn: function 13 -/
mutual
def lysimeterlaw9_FrameTorn.j0 : Nat → Int → List Int → Int → Int → Int → Bool → Bool → Option (Bool)
  | 0, _, _, _, _, _, _, _ => none
  | k + 1, x0, x1, x2, x3, x4, x11, x51 => if x51 = true then (some x11) else ((frame_Put.f k x0 x1).bind fun bt144 => ((lysimeterlaw9_num.f bt144.2).bind fun t148 => (if t148 = 0 then (lysimeterlaw9_FrameTorn.j1 k x2 x3 x4 bt144.1 ((bt144.1.length : Int) == 0)) else (lysimeterlaw9_FrameTorn.j1 k x2 x3 x4 bt144.1 true))))
def lysimeterlaw9_FrameTorn.j1 : Nat → Int → Int → Int → List Int → Bool → Option (Bool)
  | 0, _, _, _, _, _ => none
  | k + 1, x2, x3, x4, x12, x66 => if x66 = true then (some false) else (if (x12.length : Int) = 0 then (none) else (if 0 ≤ (Int.tmod x2 (x12.length : Int)) then (if (Int.tmod x2 (x12.length : Int)) ≤ (x12.length : Int) then ((frame_Get.f k (x12.take ((Int.tmod x2 (x12.length : Int)) : Int).toNat)).bind fun bt153 => (if ([] : List Int).length + x12.length < 140737488355328 then ((some (([] : List Int) ++ x12 : List Int)).bind fun y159 => (if 0 ≤ (Int.tmod x3 (x12.length : Int)) then (if (Int.tmod x3 (x12.length : Int)) < (y159.length : Int) then ((frame_Get.f k (y159.set ((Int.tmod x3 (x12.length : Int)) : Int).toNat (Go.bits .xor .u8 (rd y159 (Int.tmod x3 (x12.length : Int))) x4))).bind fun bt164 => (if (Int.tmod x3 (x12.length : Int)) ≥ 1 then (lysimeterlaw9_FrameTorn.j2 k bt153.2.2.2 bt164.2.2.2 (decide ((Int.tmod x3 (x12.length : Int)) ≤ 4))) else (lysimeterlaw9_FrameTorn.j2 k bt153.2.2.2 bt164.2.2.2 false))) else (none)) else (none))) else (none))) else (none)) else (none)))
def lysimeterlaw9_FrameTorn.j2 : Nat → Int → Int → Bool → Option (Bool)
  | 0, _, _, _ => none
  | k + 1, x17, x23, x106 => if x106 = true then ((lysimeterlaw9_num.f x17).bind fun t170 => (some (t170 == 5))) else ((lysimeterlaw9_num.f x17).bind fun t171 => (if t171 = 5 then ((lysimeterlaw9_num.f x23).bind fun t172 => (some (t172 == 5))) else (some false)))
end
def lysimeterlaw9_FrameTorn.f (k : Nat) (a0 : Int) (l1 : List Int) (a2 : Int) (a3 : Int) (a4 : Int) : Option (Bool) := (lysimeterlaw9_alive.f k).bind fun t143 => (if t143 = true then (if a0 < 0 then (lysimeterlaw9_FrameTorn.j0 k a0 l1 a2 a3 a4 t143 true) else (if a0 > 255 then (lysimeterlaw9_FrameTorn.j0 k a0 l1 a2 a3 a4 t143 true) else (if (l1.length : Int) > 3000 then (lysimeterlaw9_FrameTorn.j0 k a0 l1 a2 a3 a4 t143 true) else (if a2 < 0 then (lysimeterlaw9_FrameTorn.j0 k a0 l1 a2 a3 a4 t143 true) else (if a3 < 0 then (lysimeterlaw9_FrameTorn.j0 k a0 l1 a2 a3 a4 t143 true) else (lysimeterlaw9_FrameTorn.j0 k a0 l1 a2 a3 a4 t143 (a4 == 0))))))) else (lysimeterlaw9_FrameTorn.j0 k a0 l1 a2 a3 a4 t143 true))
theorem lysimeterlaw9_FrameTorn.mono_l : ∀ k, (∀ y0 y1 y2 y3 y4 y5 y6, LeO (lysimeterlaw9_FrameTorn.j0 k y0 y1 y2 y3 y4 y5 y6) (lysimeterlaw9_FrameTorn.j0 (k + 1) y0 y1 y2 y3 y4 y5 y6)) ∧ (∀ y0 y1 y2 y3 y4, LeO (lysimeterlaw9_FrameTorn.j1 k y0 y1 y2 y3 y4) (lysimeterlaw9_FrameTorn.j1 (k + 1) y0 y1 y2 y3 y4)) ∧ (∀ y0 y1 y2, LeO (lysimeterlaw9_FrameTorn.j2 k y0 y1 y2) (lysimeterlaw9_FrameTorn.j2 (k + 1) y0 y1 y2))
  | 0 => ⟨fun _ _ _ _ _ _ _ r h => by simp [lysimeterlaw9_FrameTorn.j0] at h, fun _ _ _ _ _ r h => by simp [lysimeterlaw9_FrameTorn.j1] at h, fun _ _ _ r h => by simp [lysimeterlaw9_FrameTorn.j2] at h⟩
  | k + 1 => by
    obtain ⟨ih0, ih1, ih2⟩ := lysimeterlaw9_FrameTorn.mono_l k
    refine ⟨?_, ?_, ?_⟩
    · intro y0 y1 y2 y3 y4 y5 y6
      unfold lysimeterlaw9_FrameTorn.j0
      repeat' first
      | (with_reducible exact ih0 _ _ _ _ _ _ _)
      | (with_reducible exact ih1 _ _ _ _ _)
      | (with_reducible exact ih2 _ _ _)
      | (with_reducible exact frame_Get.mono _ _)
      | (with_reducible exact frame_Put.mono _ _ _)
      | (with_reducible exact lysimeterlaw9_alive.mono _)
      | (with_reducible exact LeO.refl _)
      | (with_reducible exact LeO.none _)
      | (with_reducible refine LeO.ite ?_ ?_)
      | (with_reducible refine LeO.bind ?_ (fun _ => ?_))
      | exact ih0 _ _ _ _ _ _ _
      | exact ih1 _ _ _ _ _
      | exact ih2 _ _ _
      | exact frame_Get.mono _ _
      | exact frame_Put.mono _ _ _
      | exact lysimeterlaw9_alive.mono _
      | exact LeO.none _
      | refine LeO.ite ?_ ?_
      | refine LeO.bind ?_ (fun _ => ?_)
    · intro y0 y1 y2 y3 y4
      unfold lysimeterlaw9_FrameTorn.j1
      repeat' first
      | (with_reducible exact ih0 _ _ _ _ _ _ _)
      | (with_reducible exact ih1 _ _ _ _ _)
      | (with_reducible exact ih2 _ _ _)
      | (with_reducible exact frame_Get.mono _ _)
      | (with_reducible exact frame_Put.mono _ _ _)
      | (with_reducible exact lysimeterlaw9_alive.mono _)
      | (with_reducible exact LeO.refl _)
      | (with_reducible exact LeO.none _)
      | (with_reducible refine LeO.ite ?_ ?_)
      | (with_reducible refine LeO.bind ?_ (fun _ => ?_))
      | exact ih0 _ _ _ _ _ _ _
      | exact ih1 _ _ _ _ _
      | exact ih2 _ _ _
      | exact frame_Get.mono _ _
      | exact frame_Put.mono _ _ _
      | exact lysimeterlaw9_alive.mono _
      | exact LeO.none _
      | refine LeO.ite ?_ ?_
      | refine LeO.bind ?_ (fun _ => ?_)
    · intro y0 y1 y2
      unfold lysimeterlaw9_FrameTorn.j2
      repeat' first
      | (with_reducible exact ih0 _ _ _ _ _ _ _)
      | (with_reducible exact ih1 _ _ _ _ _)
      | (with_reducible exact ih2 _ _ _)
      | (with_reducible exact frame_Get.mono _ _)
      | (with_reducible exact frame_Put.mono _ _ _)
      | (with_reducible exact lysimeterlaw9_alive.mono _)
      | (with_reducible exact LeO.refl _)
      | (with_reducible exact LeO.none _)
      | (with_reducible refine LeO.ite ?_ ?_)
      | (with_reducible refine LeO.bind ?_ (fun _ => ?_))
      | exact ih0 _ _ _ _ _ _ _
      | exact ih1 _ _ _ _ _
      | exact ih2 _ _ _
      | exact frame_Get.mono _ _
      | exact frame_Put.mono _ _ _
      | exact lysimeterlaw9_alive.mono _
      | exact LeO.none _
      | refine LeO.ite ?_ ?_
      | refine LeO.bind ?_ (fun _ => ?_)
theorem lysimeterlaw9_FrameTorn.mono : ∀ a0 a1 a2 a3 a4 k, LeO (lysimeterlaw9_FrameTorn.f k a0 a1 a2 a3 a4) (lysimeterlaw9_FrameTorn.f (k + 1) a0 a1 a2 a3 a4) := by
  intro a0 a1 a2 a3 a4 k
  obtain ⟨ih0, ih1, ih2⟩ := lysimeterlaw9_FrameTorn.mono_l k
  unfold lysimeterlaw9_FrameTorn.f
  repeat' first
      | (with_reducible exact ih0 _ _ _ _ _ _ _)
      | (with_reducible exact ih1 _ _ _ _ _)
      | (with_reducible exact ih2 _ _ _)
      | (with_reducible exact frame_Get.mono _ _)
      | (with_reducible exact frame_Put.mono _ _ _)
      | (with_reducible exact lysimeterlaw9_alive.mono _)
      | (with_reducible exact LeO.refl _)
      | (with_reducible exact LeO.none _)
      | (with_reducible refine LeO.ite ?_ ?_)
      | (with_reducible refine LeO.bind ?_ (fun _ => ?_))
      | exact ih0 _ _ _ _ _ _ _
      | exact ih1 _ _ _ _ _
      | exact ih2 _ _ _
      | exact frame_Get.mono _ _
      | exact frame_Put.mono _ _ _
      | exact lysimeterlaw9_alive.mono _
      | exact LeO.none _
      | refine LeO.ite ?_ ?_
      | refine LeO.bind ?_ (fun _ => ?_)
set_option maxHeartbeats 8000000 in
set_option maxRecDepth 100000 in
theorem lysimeterlaw9_FrameTorn.calls (k : Nat) (a0 : Int) (A1 : Option Addr) (c1 : Nat) (l1 : List Int) (a2 : Int) (a3 : Int) (a4 : Int) (r : Bool) (w : World) (hr1 : Kd.C (Kd.int .u8) w A1 l1.length l1) (hc1 : l1.length ≤ c1) (hr_ : r = true) (h : lysimeterlaw9_FrameTorn.f k a0 l1 a2 a3 a4 = some r) :
    Calls Try.prog 13 #[.int .i64 a0, .slice A1 l1.length c1, .int .i64 a2, .int .i64 a3, .int .u8 a4] w fun e w' => e = .returned (.bool r) ∧ Below w.heap.size w w' := by
  have Hr_ := Aside0.mk hr_
  clear hr_
  have HR1 := Aside0.mk hr1
  have HC1 := Aside0.mk hc1
  clear hr1 hc1
  have HB := Aside0.mk (Below.refl w.heap.size w)
  have H : ((lysimeterlaw9_alive.f k).bind fun t143 => (if t143 = true then (if a0 < 0 then (lysimeterlaw9_FrameTorn.j0 k a0 l1 a2 a3 a4 t143 true) else (if a0 > 255 then (lysimeterlaw9_FrameTorn.j0 k a0 l1 a2 a3 a4 t143 true) else (if (l1.length : Int) > 3000 then (lysimeterlaw9_FrameTorn.j0 k a0 l1 a2 a3 a4 t143 true) else (if a2 < 0 then (lysimeterlaw9_FrameTorn.j0 k a0 l1 a2 a3 a4 t143 true) else (if a3 < 0 then (lysimeterlaw9_FrameTorn.j0 k a0 l1 a2 a3 a4 t143 true) else (lysimeterlaw9_FrameTorn.j0 k a0 l1 a2 a3 a4 t143 (a4 == 0))))))) else (lysimeterlaw9_FrameTorn.j0 k a0 l1 a2 a3 a4 t143 true))) = some r := h
  clear h
  replace H := Option.bind_eq_some_iff.mp H
  obtain ⟨t143, A60, H⟩ := H
  replace H : (if t143 = true then (if a0 < 0 then (lysimeterlaw9_FrameTorn.j0 k a0 l1 a2 a3 a4 t143 true) else (if a0 > 255 then (lysimeterlaw9_FrameTorn.j0 k a0 l1 a2 a3 a4 t143 true) else (if (l1.length : Int) > 3000 then (lysimeterlaw9_FrameTorn.j0 k a0 l1 a2 a3 a4 t143 true) else (if a2 < 0 then (lysimeterlaw9_FrameTorn.j0 k a0 l1 a2 a3 a4 t143 true) else (if a3 < 0 then (lysimeterlaw9_FrameTorn.j0 k a0 l1 a2 a3 a4 t143 true) else (lysimeterlaw9_FrameTorn.j0 k a0 l1 a2 a3 a4 t143 (a4 == 0))))))) else (lysimeterlaw9_FrameTorn.j0 k a0 l1 a2 a3 a4 t143 true)) = some r := H
  have A6 := Aside0.mk A60
  clear A60
  have HC7 := Aside0.mk H
  clear H
  go_enter Try.func13, Try.ntmps13
  go_upto_region 2 with (first | ((with_reducible refine gate_callee (f := 14) rfl ?_); refine goesL_ (some 24) rfl rfl Try.func14 (by kernel_rfl) rfl #[] rfl (by (try simp only [List.map_toArray, List.map_cons, List.map_nil]); first | done | rfl | (simp only [List.length_drop, List.length_take]; rfl)) ?_; (with_reducible refine (lysimeterlaw9_alive.calls k  t143 _ A6.out).mono ?_); rintro e w8 ⟨rfl, hb⟩; refine ⟨_, rfl, ?_⟩; have n0_ := Aside0.mk (below_step (by repeat (first | (with_reducible first | exact HB.out | apply below_alloc | apply pw_below_drewN | apply below_drew1) | exact HB.out)) hb); clear HB; have HB := n0_; clear n0_; (try clear hb); (try clear hb2); (try clear hk); (try clear hi)))
  (try simp only [Act.put, List.setIfInBounds_toArray, List.set_cons_zero, List.set_cons_succ])
  go_cut [51] (fun v51 wc => ∃ (kq : Nat) (x51_6 : Bool), v51 = .bool x51_6 ∧ Aside0 (lysimeterlaw9_FrameTorn.j0 kq a0 l1 a2 a3 a4 t143 x51_6 = some r) ∧ Aside0 (kq ≤ k) ∧ Aside0 (Below w.heap.size w wc))
  case first =>
    have H := HC7.out
    clear HC7
    by_cases c9 : t143 = true
    · subst c9
      have H1 : (if a0 < 0 then (lysimeterlaw9_FrameTorn.j0 k a0 l1 a2 a3 a4 true true) else (if a0 > 255 then (lysimeterlaw9_FrameTorn.j0 k a0 l1 a2 a3 a4 true true) else (if (l1.length : Int) > 3000 then (lysimeterlaw9_FrameTorn.j0 k a0 l1 a2 a3 a4 true true) else (if a2 < 0 then (lysimeterlaw9_FrameTorn.j0 k a0 l1 a2 a3 a4 true true) else (if a3 < 0 then (lysimeterlaw9_FrameTorn.j0 k a0 l1 a2 a3 a4 true true) else (lysimeterlaw9_FrameTorn.j0 k a0 l1 a2 a3 a4 true (a4 == 0))))))) = some r := by rw [if_pos rfl] at H; exact H
      clear H
      have H := H1
      clear H1
      by_cases c10 : a0 < 0
      · rw [if_pos c10] at H
        have c10b0 : decide (a0 < 0) = true := decide_eq_true c10
        clear c10
        (first | rw [c10b0] | (simp only [i64_w, i32_w]; rw [c10b0]) | skip)
        have H' := Aside0.mk H
        clear H
        go_wp2
        go_meet
        case rel => exact ⟨_, (true), (by first | rfl | (simp; done) | (simp [*]; done)), H', ⟨by first | omega | exact Nat.le_refl _⟩, ⟨by repeat (first | (with_reducible first | exact HB.out | apply below_alloc | apply pw_below_drewN | apply below_drew1) | exact HB.out)⟩⟩
      · rw [if_neg c10] at H
        have c10b0 : decide (a0 < 0) = false := decide_eq_false c10
        clear c10
        (first | rw [c10b0] | (simp only [i64_w, i32_w]; rw [c10b0]) | skip)
        by_cases c11 : a0 > 255
        · rw [if_pos c11] at H
          have c11b0 : decide (255 < a0) = true := decide_eq_true c11
          clear c11
          have H' := Aside0.mk H
          clear H
          go_wp2
          go_meet
          case rel => exact ⟨_, (true), (by first | rfl | (simp; done) | (simp [*]; done)), H', ⟨by first | omega | exact Nat.le_refl _⟩, ⟨by repeat (first | (with_reducible first | exact HB.out | apply below_alloc | apply pw_below_drewN | apply below_drew1) | exact HB.out)⟩⟩
        · rw [if_neg c11] at H
          have c11b0 : decide (255 < a0) = false := decide_eq_false c11
          clear c11
          by_cases c12 : (l1.length : Int) > 3000
          · rw [if_pos c12] at H
            have c12b0 : decide (3000 < (l1.length : Int)) = true := decide_eq_true c12
            have c12b1 : decide (3000 < l1.length) = true := decide_eq_true (by omega)
            clear c12
            have H' := Aside0.mk H
            clear H
            go_wp2
            go_meet
            case rel => exact ⟨_, (true), (by first | rfl | (simp; done) | (simp [*]; done)), H', ⟨by first | omega | exact Nat.le_refl _⟩, ⟨by repeat (first | (with_reducible first | exact HB.out | apply below_alloc | apply pw_below_drewN | apply below_drew1) | exact HB.out)⟩⟩
          · rw [if_neg c12] at H
            have c12b0 : decide (3000 < (l1.length : Int)) = false := decide_eq_false c12
            have c12b1 : decide (3000 < l1.length) = false := decide_eq_false (by omega)
            clear c12
            by_cases c13 : a2 < 0
            · rw [if_pos c13] at H
              have c13b0 : decide (a2 < 0) = true := decide_eq_true c13
              clear c13
              have H' := Aside0.mk H
              clear H
              go_wp2
              go_meet
              case rel => exact ⟨_, (true), (by first | rfl | (simp; done) | (simp [*]; done)), H', ⟨by first | omega | exact Nat.le_refl _⟩, ⟨by repeat (first | (with_reducible first | exact HB.out | apply below_alloc | apply pw_below_drewN | apply below_drew1) | exact HB.out)⟩⟩
            · rw [if_neg c13] at H
              have c13b0 : decide (a2 < 0) = false := decide_eq_false c13
              clear c13
              by_cases c14 : a3 < 0
              · rw [if_pos c14] at H
                have c14b0 : decide (a3 < 0) = true := decide_eq_true c14
                clear c14
                have H' := Aside0.mk H
                clear H
                go_wp2
                go_meet
                case rel => exact ⟨_, (true), (by first | rfl | (simp; done) | (simp [*]; done)), H', ⟨by first | omega | exact Nat.le_refl _⟩, ⟨by repeat (first | (with_reducible first | exact HB.out | apply below_alloc | apply pw_below_drewN | apply below_drew1) | exact HB.out)⟩⟩
              · rw [if_neg c14] at H
                have c14b0 : decide (a3 < 0) = false := decide_eq_false c14
                clear c14
                have H' := Aside0.mk H
                clear H
                go_wp2
                go_meet
                case rel => exact ⟨_, ((a4 == 0)), (by first | rfl | (simp; done) | (simp [*]; done)), H', ⟨by first | omega | exact Nat.le_refl _⟩, ⟨by repeat (first | (with_reducible first | exact HB.out | apply below_alloc | apply pw_below_drewN | apply below_drew1) | exact HB.out)⟩⟩
    · replace c9 := Bool.eq_false_iff.mpr c9
      subst c9
      have H1 : (lysimeterlaw9_FrameTorn.j0 k a0 l1 a2 a3 a4 false true) = some r := by rw [if_neg (show ¬ (false = true) by decide)] at H; exact H
      clear H
      have H := H1
      clear H1
      have H' := Aside0.mk H
      clear H
      go_wp2
      go_meet
      case rel => exact ⟨_, (true), (by first | rfl | (simp; done) | (simp [*]; done)), H', ⟨by first | omega | exact Nat.le_refl _⟩, ⟨by repeat (first | (with_reducible first | exact HB.out | apply below_alloc | apply pw_below_drewN | apply below_drew1) | exact HB.out)⟩⟩
  case rest =>
    clear HC7
    try clear c1
    try clear p2
    try clear c9
    try clear c10
    try clear c10b0
    try clear c11
    try clear c11b0
    try clear c12
    try clear c12b0
    try clear c12b1
    try clear c13
    try clear c13b0
    try clear c14
    try clear c14b0
    obtain ⟨kq, x51_6, rfl, HA, HJ6, HB⟩ := hcut
    cases kq with
    | zero => exact absurd HA.out (by simp [lysimeterlaw9_FrameTorn.j0])
    | succ kj6 =>
      have H := HA.out
      clear HA
      simp only [lysimeterlaw9_FrameTorn.j0] at H
      by_cases c15 : x51_6 = true
      · subst c15
        have H1 : (some t143) = some r := by rw [if_pos rfl] at H; exact H
        clear H
        have H := H1
        clear H1
        obtain rfl := Option.some.inj H
        go_wp2
        go_ret
        exact ⟨by first | rfl | (simp [errW_none, errW_some] <;> rfl) | (simp [*, errW_none, errW_some] <;> rfl), by repeat (first | (with_reducible first | exact HB.out | apply below_alloc | apply pw_below_drewN | apply below_drew1) | exact HB.out)⟩
      · replace c15 := Bool.eq_false_iff.mpr c15
        subst c15
        have H1 : ((frame_Put.f kj6 a0 l1).bind fun bt144 => ((lysimeterlaw9_num.f bt144.2).bind fun t148 => (if t148 = 0 then (lysimeterlaw9_FrameTorn.j1 kj6 a2 a3 a4 bt144.1 ((bt144.1.length : Int) == 0)) else (lysimeterlaw9_FrameTorn.j1 kj6 a2 a3 a4 bt144.1 true)))) = some r := by rw [if_neg (show ¬ (false = true) by decide)] at H; exact H
        clear H
        have H := H1
        clear H1
        replace H := Option.bind_eq_some_iff.mp H
        obtain ⟨⟨t144, t145⟩, A160, H⟩ := H
        replace H : ((lysimeterlaw9_num.f t145).bind fun t148 => (if t148 = 0 then (lysimeterlaw9_FrameTorn.j1 kj6 a2 a3 a4 t144 ((t144.length : Int) == 0)) else (lysimeterlaw9_FrameTorn.j1 kj6 a2 a3 a4 t144 true))) = some r := H
        have A16 := Aside0.mk A160
        clear A160
        have HC17 := Aside0.mk H
        clear H
        go_upto_region 5 with (first | ((with_reducible refine gate_callee (f := 48) rfl ?_); refine goesL_ (some 56) rfl rfl Try.func48 (by kernel_rfl) rfl #[.int .i64 a0, .slice A1 l1.length c1] rfl (by (try simp only [List.map_toArray, List.map_cons, List.map_nil]); first | done | rfl | (simp only [List.length_drop, List.length_take]; rfl)) ?_; (with_reducible refine (frame_Put.calls kj6 a0 _ _ l1 t144 t145 _ ?side1 ?side2 A16.out).mono ?_); (case side1 => repeat (first | exact (Kd.C_below HR1.out HB.out) | (with_reducible refine Kd.C_alloc ?_ _) | (with_reducible refine Kd.C_drewN ?_ _) | (with_reducible refine Kd.C_drew ?_))); (case side2 => exact HC1.out); rintro e w18 ⟨v146, rfl, ho0, hb⟩; refine ⟨_, rfl, ?_⟩; have n0_ := Aside0.mk (Kd.R_lower ho0 (below_size (by repeat (first | (with_reducible first | exact HB.out | apply below_alloc | apply pw_below_drewN | apply below_drew1) | exact HB.out)))); have n1_ := Aside0.mk (below_step (by repeat (first | (with_reducible first | exact HB.out | apply below_alloc | apply pw_below_drewN | apply below_drew1) | exact HB.out)) hb); clear HB; have HO147 := n0_; have HB := n1_; clear n0_ n1_; (try clear hb); (try clear hb2); (try clear hk); (try clear hi); (try clear ho0)))
        (try simp only [Act.put, List.setIfInBounds_toArray, List.set_cons_zero, List.set_cons_succ])
        go_cut [66] (fun v66 wc => ∃ (kq : Nat) (x66_16 : Bool), v66 = .bool x66_16 ∧ Aside0 (lysimeterlaw9_FrameTorn.j1 kq a2 a3 a4 t144 x66_16 = some r) ∧ Aside0 (kq ≤ kj6) ∧ Aside0 (Kd.R (Kd.int .u8) 5 wc w.heap.size (fun _ => True) v146 t144) ∧ Aside0 (Below w.heap.size w wc))
        case first =>
          have H := HC17.out
          clear HC17
          replace H := Option.bind_eq_some_iff.mp H
          obtain ⟨t148, A190, H⟩ := H
          replace H : (if t148 = 0 then (lysimeterlaw9_FrameTorn.j1 kj6 a2 a3 a4 t144 ((t144.length : Int) == 0)) else (lysimeterlaw9_FrameTorn.j1 kj6 a2 a3 a4 t144 true)) = some r := H
          have A19 := Aside0.mk A190
          clear A190
          by_cases c20 : t148 = 0
          · rw [if_pos c20] at H
            have c20b0 : (t148 == 0) = true := beq_iff_eq.mpr c20
            have c20b1 : (t148 != 0) = false := bne_eq_false_iff_eq.mpr c20
            clear c20
            (first | rw [c20b0] | (simp only [i64_w, i32_w]; rw [c20b0]) | skip)
            have H' := Aside0.mk H
            clear H
            go_wp2_with (first | ((with_reducible refine gate_callee (f := 50) rfl ?_); refine goesL_ (some 60) rfl rfl Try.func50 (by kernel_rfl) rfl #[.int .i64 t145] rfl (by (try simp only [List.map_toArray, List.map_cons, List.map_nil]); first | done | rfl | (simp only [List.length_drop, List.length_take]; rfl)) ?_; (with_reducible refine (lysimeterlaw9_num.calls t145 t148 _ A19.out).mono ?_); rintro e w' ⟨rfl, ⟨nd, rfl⟩⟩; refine ⟨_, rfl, ?_⟩; obtain ⟨Ao21, co21, eo21⟩ := Kd.R_slice HO147.out; subst eo21))
            go_meet
            case rel => exact ⟨_, (((t144.length : Int) == 0)), (by first | rfl | (simp; done) | (simp [*]; done)), H', ⟨by have := HJ6.out; first | omega | exact Nat.le_refl _⟩, ⟨by (with_reducible repeat (first | apply Kd.R_alloc | apply Kd.R_drewN | apply Kd.R_drew)); exact HO147.out⟩, ⟨by repeat (first | (with_reducible first | exact HB.out | apply below_alloc | apply pw_below_drewN | apply below_drew1) | exact HB.out)⟩⟩
          · rw [if_neg c20] at H
            have c20b0 : (t148 == 0) = false := beq_eq_false_iff_ne.mpr c20
            have c20b1 : (t148 != 0) = true := bne_iff_ne.mpr c20
            (first | rw [c20b0] | (simp only [i64_w, i32_w]; rw [c20b0]) | skip)
            have H' := Aside0.mk H
            clear H
            go_wp2_with (first | ((with_reducible refine gate_callee (f := 50) rfl ?_); refine goesL_ (some 60) rfl rfl Try.func50 (by kernel_rfl) rfl #[.int .i64 t145] rfl (by (try simp only [List.map_toArray, List.map_cons, List.map_nil]); first | done | rfl | (simp only [List.length_drop, List.length_take]; rfl)) ?_; (with_reducible refine (lysimeterlaw9_num.calls t145 t148 _ A19.out).mono ?_); rintro e w' ⟨rfl, ⟨nd, rfl⟩⟩; refine ⟨_, rfl, ?_⟩))
            go_meet
            case rel => exact ⟨_, (true), (by first | rfl | (simp; done) | (simp [*]; done)), H', ⟨by have := HJ6.out; first | omega | exact Nat.le_refl _⟩, ⟨by (with_reducible repeat (first | apply Kd.R_alloc | apply Kd.R_drewN | apply Kd.R_drew)); exact HO147.out⟩, ⟨by repeat (first | (with_reducible first | exact HB.out | apply below_alloc | apply pw_below_drewN | apply below_drew1) | exact HB.out)⟩⟩
        case rest =>
          clear HC17
          try clear c1
          try clear c2
          try clear p2
          try clear c4
          try clear c5
          try clear c9
          try clear c10
          try clear c10b0
          try clear c11
          try clear c11b0
          try clear c12
          try clear c12b0
          try clear c12b1
          try clear c13
          try clear c13b0
          try clear c14
          try clear c14b0
          try clear c15
          try clear c20
          try clear c20b0
          try clear c20b1
          try clear p2
          obtain ⟨kq, x66_16, rfl, HA, HJ16, HO_12, HB⟩ := hcut
          cases kq with
          | zero => exact absurd HA.out (by simp [lysimeterlaw9_FrameTorn.j1])
          | succ kj16 =>
            have H := HA.out
            clear HA
            simp only [lysimeterlaw9_FrameTorn.j1] at H
            by_cases c22 : x66_16 = true
            · subst c22
              have H1 : (some false) = some r := by rw [if_pos rfl] at H; exact H
              clear H
              have H := H1
              clear H1
              exact absurd ((Option.some.inj H).trans Hr_.out) (by simp)
            · replace c22 := Bool.eq_false_iff.mpr c22
              subst c22
              have H1 : (if (t144.length : Int) = 0 then (none) else (if 0 ≤ (Int.tmod a2 (t144.length : Int)) then (if (Int.tmod a2 (t144.length : Int)) ≤ (t144.length : Int) then ((frame_Get.f kj16 (t144.take ((Int.tmod a2 (t144.length : Int)) : Int).toNat)).bind fun bt153 => (if ([] : List Int).length + t144.length < 140737488355328 then ((some (([] : List Int) ++ t144 : List Int)).bind fun y159 => (if 0 ≤ (Int.tmod a3 (t144.length : Int)) then (if (Int.tmod a3 (t144.length : Int)) < (y159.length : Int) then ((frame_Get.f kj16 (y159.set ((Int.tmod a3 (t144.length : Int)) : Int).toNat (Go.bits .xor .u8 (rd y159 (Int.tmod a3 (t144.length : Int))) a4))).bind fun bt164 => (if (Int.tmod a3 (t144.length : Int)) ≥ 1 then (lysimeterlaw9_FrameTorn.j2 kj16 bt153.2.2.2 bt164.2.2.2 (decide ((Int.tmod a3 (t144.length : Int)) ≤ 4))) else (lysimeterlaw9_FrameTorn.j2 kj16 bt153.2.2.2 bt164.2.2.2 false))) else (none)) else (none))) else (none))) else (none)) else (none))) = some r := by rw [if_neg (show ¬ (false = true) by decide)] at H; exact H
              clear H
              have H := H1
              clear H1
              by_cases c23 : (t144.length : Int) = 0
              · rw [if_pos c23] at H
                exact absurd H (by simp)
              · rw [if_neg c23] at H
                have c23b0 : ((t144.length : Int) == 0) = false := beq_eq_false_iff_ne.mpr c23
                have c23b1 : ((t144.length : Int) != 0) = true := bne_iff_ne.mpr c23
                have c23b2 : ¬ (t144 = []) := fun h_ => c23 (by rw [h_]; rfl)
                obtain ⟨ji24, hji24⟩ : ∃ j_ : Int, (Int.tmod a2 (t144.length : Int)) = j_ := ⟨_, rfl⟩
                replace H : (if 0 ≤ (ji24) then (if (ji24) ≤ (t144.length : Int) then ((frame_Get.f kj16 (t144.take ((ji24) : Int).toNat)).bind fun bt153 => (if ([] : List Int).length + t144.length < 140737488355328 then ((some (([] : List Int) ++ t144 : List Int)).bind fun y159 => (if 0 ≤ (Int.tmod a3 (t144.length : Int)) then (if (Int.tmod a3 (t144.length : Int)) < (y159.length : Int) then ((frame_Get.f kj16 (y159.set ((Int.tmod a3 (t144.length : Int)) : Int).toNat (Go.bits .xor .u8 (rd y159 (Int.tmod a3 (t144.length : Int))) a4))).bind fun bt164 => (if (Int.tmod a3 (t144.length : Int)) ≥ 1 then (lysimeterlaw9_FrameTorn.j2 kj16 bt153.2.2.2 bt164.2.2.2 (decide ((Int.tmod a3 (t144.length : Int)) ≤ 4))) else (lysimeterlaw9_FrameTorn.j2 kj16 bt153.2.2.2 bt164.2.2.2 false))) else (none)) else (none))) else (none))) else (none)) else (none)) = some r := by first | (rw [hji24] at H; exact H) | (simp only [hji24] at H ⊢; exact H)
                by_cases c25 : 0 ≤ (ji24)
                · rw [if_pos c25] at H
                  have c25b0 := eq_true c25
                  have c25b1 : decide (0 ≤ (ji24)) = true := decide_eq_true c25
                  clear c25
                  by_cases c26 : (ji24) ≤ (t144.length : Int)
                  · rw [if_pos c26] at H
                    have c26b0 := eq_true c26
                    have c26b1 : decide ((ji24) ≤ (t144.length : Int)) = true := decide_eq_true c26
                    clear c26
                    obtain ⟨y149, hy149⟩ : ∃ y_ : List Int, y_ = (t144.take ((ji24) : Int).toNat) := ⟨_, rfl⟩
                    replace H : ((frame_Get.f kj16 y149).bind fun bt153 => (if ([] : List Int).length + t144.length < 140737488355328 then ((some (([] : List Int) ++ t144 : List Int)).bind fun y159 => (if 0 ≤ (Int.tmod a3 (t144.length : Int)) then (if (Int.tmod a3 (t144.length : Int)) < (y159.length : Int) then ((frame_Get.f kj16 (y159.set ((Int.tmod a3 (t144.length : Int)) : Int).toNat (Go.bits .xor .u8 (rd y159 (Int.tmod a3 (t144.length : Int))) a4))).bind fun bt164 => (if (Int.tmod a3 (t144.length : Int)) ≥ 1 then (lysimeterlaw9_FrameTorn.j2 kj16 bt153.2.2.2 bt164.2.2.2 (decide ((Int.tmod a3 (t144.length : Int)) ≤ 4))) else (lysimeterlaw9_FrameTorn.j2 kj16 bt153.2.2.2 bt164.2.2.2 false))) else (none)) else (none))) else (none))) = some r := by first | (rw [hy149]; with_reducible exact H) | (have H2_ := (Option.bind_some _ _).symm.trans H; rw [hy149]; with_reducible exact H2_) | (have H2_ := (Option.bind_some _ _).symm.trans H; with_reducible exact H2_) | with_reducible exact H | (rw [hy149]; exact H) | exact H
                    have Ny149 := Aside0.mk hy149
                    clear hy149
                    replace H := Option.bind_eq_some_iff.mp H
                    obtain ⟨⟨t153, t154, t155, t156⟩, A270, H⟩ := H
                    replace H : (if ([] : List Int).length + t144.length < 140737488355328 then ((some (([] : List Int) ++ t144 : List Int)).bind fun y159 => (if 0 ≤ (Int.tmod a3 (t144.length : Int)) then (if (Int.tmod a3 (t144.length : Int)) < (y159.length : Int) then ((frame_Get.f kj16 (y159.set ((Int.tmod a3 (t144.length : Int)) : Int).toNat (Go.bits .xor .u8 (rd y159 (Int.tmod a3 (t144.length : Int))) a4))).bind fun bt164 => (if (Int.tmod a3 (t144.length : Int)) ≥ 1 then (lysimeterlaw9_FrameTorn.j2 kj16 t156 bt164.2.2.2 (decide ((Int.tmod a3 (t144.length : Int)) ≤ 4))) else (lysimeterlaw9_FrameTorn.j2 kj16 t156 bt164.2.2.2 false))) else (none)) else (none))) else (none)) = some r := H
                    have A27 := Aside0.mk A270
                    clear A270
                    by_cases c28 : ([] : List Int).length + t144.length < 140737488355328
                    · rw [if_pos c28] at H
                      have LMc28 := Aside0.mk c28
                      clear c28
                      obtain ⟨y159, hy159⟩ : ∃ y_ : List Int, y_ = (([] : List Int) ++ t144) := ⟨_, rfl⟩
                      replace H : (if 0 ≤ (Int.tmod a3 (t144.length : Int)) then (if (Int.tmod a3 (t144.length : Int)) < (y159.length : Int) then ((frame_Get.f kj16 (y159.set ((Int.tmod a3 (t144.length : Int)) : Int).toNat (Go.bits .xor .u8 (rd y159 (Int.tmod a3 (t144.length : Int))) a4))).bind fun bt164 => (if (Int.tmod a3 (t144.length : Int)) ≥ 1 then (lysimeterlaw9_FrameTorn.j2 kj16 t156 bt164.2.2.2 (decide ((Int.tmod a3 (t144.length : Int)) ≤ 4))) else (lysimeterlaw9_FrameTorn.j2 kj16 t156 bt164.2.2.2 false))) else (none)) else (none)) = some r := by first | (rw [hy159]; with_reducible exact H) | (have H2_ := (Option.bind_some _ _).symm.trans H; rw [hy159]; with_reducible exact H2_) | (have H2_ := (Option.bind_some _ _).symm.trans H; with_reducible exact H2_) | with_reducible exact H | (rw [hy159]; exact H) | exact H
                      have Ny159 := Aside0.mk hy159
                      clear hy159
                      obtain ⟨ji29, hji29⟩ : ∃ j_ : Int, (Int.tmod a3 (t144.length : Int)) = j_ := ⟨_, rfl⟩
                      replace H : (if 0 ≤ (ji29) then (if (ji29) < (y159.length : Int) then ((frame_Get.f kj16 (y159.set ((ji29) : Int).toNat (Go.bits .xor .u8 (rd y159 (ji29)) a4))).bind fun bt164 => (if (ji29) ≥ 1 then (lysimeterlaw9_FrameTorn.j2 kj16 t156 bt164.2.2.2 (decide ((ji29) ≤ 4))) else (lysimeterlaw9_FrameTorn.j2 kj16 t156 bt164.2.2.2 false))) else (none)) else (none)) = some r := by first | (rw [hji29] at H; exact H) | (simp only [hji29] at H ⊢; exact H)
                      (try rw [hji29] at A27)
                      by_cases c30 : 0 ≤ (ji29)
                      · rw [if_pos c30] at H
                        have c30b0 : decide (0 ≤ (ji29)) = true := decide_eq_true c30
                        clear c30
                        by_cases c31 : (ji29) < (y159.length : Int)
                        · rw [if_pos c31] at H
                          have c31b0 : decide ((ji29) < (y159.length : Int)) = true := decide_eq_true c31
                          clear c31
                          obtain ⟨y163, hy163⟩ : ∃ y_ : List Int, y_ = (y159.set ((ji29) : Int).toNat (Go.bits .xor .u8 (rd y159 (ji29)) a4)) := ⟨_, rfl⟩
                          replace H : ((frame_Get.f kj16 y163).bind fun bt164 => (if (ji29) ≥ 1 then (lysimeterlaw9_FrameTorn.j2 kj16 t156 bt164.2.2.2 (decide ((ji29) ≤ 4))) else (lysimeterlaw9_FrameTorn.j2 kj16 t156 bt164.2.2.2 false))) = some r := by first | (rw [hy163]; with_reducible exact H) | (have H2_ := (Option.bind_some _ _).symm.trans H; rw [hy163]; with_reducible exact H2_) | (have H2_ := (Option.bind_some _ _).symm.trans H; with_reducible exact H2_) | with_reducible exact H | (rw [hy163]; exact H) | exact H
                          have Ny163 := Aside0.mk hy163
                          clear hy163
                          replace H := Option.bind_eq_some_iff.mp H
                          obtain ⟨⟨t164, t165, t166, t167⟩, A330, H⟩ := H
                          replace H : (if (ji29) ≥ 1 then (lysimeterlaw9_FrameTorn.j2 kj16 t156 t167 (decide ((ji29) ≤ 4))) else (lysimeterlaw9_FrameTorn.j2 kj16 t156 t167 false)) = some r := H
                          have A33 := Aside0.mk A330
                          clear A330
                          have HC34 := Aside0.mk H
                          clear H
                          obtain ⟨Ao35, co35, eo35⟩ := Kd.R_slice HO_12.out
                          subst eo35
                          have q36 : ((ji24) : Int) ≤ ((t144.length : Int) : Int) := of_decide_eq_true (by first | (with_reducible assumption) | assumption)
                          obtain ⟨i036, hi036, _, hsz36, _⟩ := info_parts info5
                          have hroom36 : t144.length ≤ co35 := (Kd.R_reads' HO_12.out).2.1
                          have hC36 : Kd.C (Kd.int .u8) _ Ao35 t144.length t144 := (Kd.R_reads' HO_12.out).2.2
                          have hcut36 := cut_to (P := Try.prog) 22 5 .i64 Try.underlying22 hi036 Ao35 t144.length co35 (ji24) (of_decide_eq_true (by first | (with_reducible assumption) | assumption)) q36 hroom36
                          have hr36 := Kd.C_take (m := ((ji24) : Int).toNat) hC36 (by omega)
                          have hy36 : y149.length = ((ji24) : Int).toNat := (by rw [Ny149.out, List.length_take]; omega)
                          rw [← Ny149.out] at hr36
                          rw [← hy36] at hcut36
                          have HR152 := Aside0.mk hr36
                          have HC152 := Aside0.mk (show y149.length ≤ co35 from by omega)
                          clear hr36 hC36 hroom36 hi036 hsz36
                          have KY36 := Aside0.mk hy36
                          clear hy36
                          have KL36 := Aside0.mk (show ((ji24) : Int).toNat ≤ t144.length from by omega)
                          replace q36 := eq_true q36
                          go_upto_region 12 with (first | ((with_reducible refine gate_callee (f := 51) rfl ?_); refine goesL_ (some 74) rfl rfl Try.func51 (by kernel_rfl) rfl #[.slice Ao35 y149.length co35] rfl (by (try simp only [List.map_toArray, List.map_cons, List.map_nil]); first | done | rfl | (simp only [List.length_drop, List.length_take]; rfl)) ?_; (with_reducible refine (frame_Get.calls kj16 _ _ y149 t153 t154 t155 t156 _ ?side1 ?side2 A27.out).mono ?_); (case side1 => repeat (first | exact (by repeat (first | (with_reducible exact HR152.out) | (with_reducible refine Kd.C_alloc ?_ _) | (with_reducible refine Kd.C_drewN ?_ _) | (with_reducible refine Kd.C_drew ?_) | exact HR152.out)) | (with_reducible refine Kd.C_alloc ?_ _) | (with_reducible refine Kd.C_drewN ?_ _) | (with_reducible refine Kd.C_drew ?_))); (case side2 => exact HC152.out); rintro e w37 ⟨v157, rfl, ho0, hb⟩; refine ⟨_, rfl, ?_⟩; have n0_ := Aside0.mk (Kd.R_elder' (by (with_reducible repeat (first | apply Kd.R_alloc | apply Kd.R_drewN | apply Kd.R_drew)); exact HO_12.out) (Kd.R_base ho0) hb); have n1_ := Aside0.mk (Kd.R_lower (Kd.R_new' ho0 (Kd.R_lt (by (with_reducible repeat (first | apply Kd.R_alloc | apply Kd.R_drewN | apply Kd.R_drew)); exact HO_12.out))) (below_size (by repeat (first | (with_reducible first | exact HB.out | apply below_alloc | apply pw_below_drewN | apply below_drew1) | exact HB.out)))); have n2_ := Aside0.mk (Kd.C_below (by repeat (first | (with_reducible exact HR152.out) | (with_reducible refine Kd.C_alloc ?_ _) | (with_reducible refine Kd.C_drewN ?_ _) | (with_reducible refine Kd.C_drew ?_) | exact HR152.out)) hb); have n3_ := Aside0.mk (below_step (by repeat (first | (with_reducible first | exact HB.out | apply below_alloc | apply pw_below_drewN | apply below_drew1) | exact HB.out)) hb); clear HO_12; clear HR152; clear HB; have HO_12 := n0_; have HO158 := n1_; have HR152 := n2_; have HB := n3_; clear n0_ n1_ n2_ n3_; (try clear hb); (try clear hb2); (try clear hk); (try clear hi); (try clear ho0)) | ((with_reducible refine gate_builtin (b := .append) (xs := #[.const (.slice none 0 0), .tmp 83]) rfl ?_); (try (refine gate_guard (by rfl) ?_; dsimp only)); at_builtin; refine Kd.R_append_rows (Kd.int .u8) (w0 := w) w.heap.size rfl (.const (.slice none 0 0)) (.tmp 83) 22 5 (.int .u8 0) 1 rfl Try.underlying22 info5 rfl (by decide) (by omega) (.slice none 0 0) ([] : List Int) t144 _ _ _ (fun k_ => some k_ ≠ (.slice Ao35 t144.length co35 : Value).ownBlock ∧ some k_ ≠ (v157 : Value).ownBlock) (fun _ => False) rfl rfl ?aO ?aR (fun _ _ h => h) (fun _ h => h.elim) ?aF ?aB ?aS ?aL ?_; (case aR => repeat (first | exact (Kd.R_reads' HO_12.out).2.2 | (with_reducible refine Kd.C_alloc ?_ _) | (with_reducible refine Kd.C_drewN ?_ _) | (with_reducible refine Kd.C_drew ?_))); (case aB => exact (by repeat (first | (with_reducible first | exact HB.out | apply below_alloc | apply pw_below_drewN | apply below_drew1) | exact HB.out))); (case aF => exact (fun k_ hk => ⟨Kd.fresh' (Kd.R_lt (by (with_reducible repeat (first | apply Kd.R_alloc | apply Kd.R_drewN | apply Kd.R_drew)); exact HO_12.out)) k_ hk, Kd.fresh' (Kd.R_lt (by (with_reducible repeat (first | apply Kd.R_alloc | apply Kd.R_drewN | apply Kd.R_drew)); exact HO158.out)) k_ hk⟩)); (case aO => exact ((Kd.R_nil _ _ _ _ (fun k_ => some k_ ≠ (.slice Ao35 t144.length co35 : Value).ownBlock ∧ some k_ ≠ (v157 : Value).ownBlock)))); (case aS => exact (below_size (by repeat (first | (with_reducible first | exact HB.out | apply below_alloc | apply pw_below_drewN | apply below_drew1) | exact HB.out)))); (case aL => have := LMc28.out; omega); intro v160 w38 ho hb hg hat; rw [← Ny159.out] at ho; have n0_ := Aside0.mk (Kd.R_after (Kd.R_apart_nil (by (with_reducible repeat (first | apply Kd.R_alloc | apply Kd.R_drewN | apply Kd.R_drew)); exact HO_12.out)) hg hat); have n1_ := Aside0.mk (Kd.R_after (Kd.R_apart_nil (by (with_reducible repeat (first | apply Kd.R_alloc | apply Kd.R_drewN | apply Kd.R_drew)); exact HO158.out)) hg hat); have n2_ := Aside0.mk (hb); have n3_ := Aside0.mk ((show Kd.C (Kd.int .u8) w38 Ao35 y149.length y149 from by rw [Ny149.out]; exact Kd.C_take (m := ((ji24) : Int).toNat) ((Kd.R_reads' (Kd.R_after (Kd.R_apart_nil (by (with_reducible repeat (first | apply Kd.R_alloc | apply Kd.R_drewN | apply Kd.R_drew)); exact HO_12.out)) hg hat)).2.2) KL36.out)); have n4_ := Aside0.mk (ho); clear HO_12; clear HO158; clear HB; clear HR152; have HO_12 := n0_; have HO158 := n1_; have HB := n2_; have HR152 := n3_; have HO161 := n4_; clear n0_ n1_ n2_ n3_ n4_; clear ho hb hg hat; obtain ⟨Ao39, co39, eo39⟩ := Kd.R_slice HO161.out; subst eo39; have p162 : 0 ≤ ((ji29) : Int) := of_decide_eq_true (by first | (with_reducible assumption) | assumption); have q162 : (ji29) < (y159.length : Int) := of_decide_eq_true (by first | (with_reducible assumption) | assumption); obtain ⟨ad162, e162, hx162_0⟩ := Kd.at_int (Kd.R_reads' HO161.out).2.2 (ji29) p162 q162; cases e162; replace p162 := eq_true p162; replace q162 := eq_true q162; have p32 : 0 ≤ ((ji29) : Int) := of_decide_eq_true (by first | (with_reducible assumption) | assumption); have q32 : ((ji29) : Int) < ((y159.length : Int) : Int) := of_decide_eq_true (by first | (with_reducible assumption) | assumption); obtain ⟨go32, co32, eo32, gb32, gl32, cl32, HG32⟩ := Kd.R_form HO161.out (by omega); (first | cases eo32 | (injection eo32 with ea_ en_ ec_; (first | subst ea_ | (injection ea_ with ea_; subst ea_)); subst ec_; clear en_)); have GB32 := Aside0.mk gb32; have GG32 := Aside0.mk HG32; clear gb32 gl32 HG32; (first | simp only [add_plain] at hx162_0 | skip); obtain ⟨hx32_0, hf32_0⟩ := Kd.R_celln 0 HO161.out ((ji29) : Int) p32 q32; replace p32 := eq_true p32; replace q32 := eq_true q32; obtain ⟨hy40_, hz40_⟩ := Kd.R_celln 0 HO161.out ((ji29) : Int) (of_decide_eq_true (by first | (with_reducible assumption) | assumption)) (of_decide_eq_true (by first | (with_reducible assumption) | assumption)); have HP40 := Kd.R_putg HO161.out ((ji29) : Int) (Go.bits .xor .u8 (rd y159 (ji29)) a4)) | ((with_reducible refine gate_store (t := 5) (p := 93) rfl ?_); refine store_event (t := 5) (p := 93) (v := ?vo_w41) (w1 := (w38.setCell ⟨go32, ((ji29) : Int).toNat, none⟩ (.int .u8 (Go.bits .xor .u8 (rd y159 (ji29)) a4)))) ?hg ?ho ?hn ?hr ?_; (case ho => rfl); (case hg => rfl); (case hn => rfl); (case hr => first | (go_simp; done) | (go_simp; rfl)); intro w41 hw; have hg : w38.grownBy w41 (some go32) := (by rw [hw]; exact HP40.2); have hp_ : Kd.R (Kd.int .u8) 5 w41 w.heap.size (fun k_ => some k_ ≠ (.slice Ao35 t144.length co35 : Value).ownBlock ∧ some k_ ≠ (v157 : Value).ownBlock) (.slice (some ⟨go32, 0, none⟩) y159.length co39) y163 := (by rw [hw, Ny163.out]; exact HP40.1); clear HP40; have n0_ := Aside0.mk (Kd.R_after (v := (.slice (some ⟨go32, 0, none⟩) y159.length co39)) (v1 := (.slice (some ⟨go32, 0, none⟩) y159.length co39)) (ok := (fun k_ => some k_ ≠ (v157 : Value).ownBlock)) (by (with_reducible repeat (first | apply Kd.R_alloc | apply Kd.R_drewN | apply Kd.R_drew)); exact Kd.R_mono HO_12.out (fun _ hk => by first | exact ⟨hk.1.2, hk.2⟩ | simp_all)) hg (.inl rfl)); have n1_ := Aside0.mk (Kd.R_after (v := (.slice (some ⟨go32, 0, none⟩) y159.length co39)) (v1 := (.slice (some ⟨go32, 0, none⟩) y159.length co39)) (ok := (fun k_ => some k_ ≠ (.slice Ao35 t144.length co35 : Value).ownBlock)) (by (with_reducible repeat (first | apply Kd.R_alloc | apply Kd.R_drewN | apply Kd.R_drew)); exact Kd.R_mono HO158.out (fun _ hk => by first | exact ⟨hk.1.2, hk.2⟩ | simp_all)) hg (.inl rfl)); have n2_ := Aside0.mk (hp_); have n3_ := Aside0.mk ((by rw [hw]; exact below_set (HB.out) GB32.out : Below w.heap.size w w41)); have n4_ := Aside0.mk ((show Kd.C (Kd.int .u8) w41 Ao35 y149.length y149 from by rw [Ny149.out]; exact Kd.C_take (m := ((ji24) : Int).toNat) ((Kd.R_reads' (Kd.R_after (v := (.slice (some ⟨go32, 0, none⟩) y159.length co39)) (v1 := (.slice (some ⟨go32, 0, none⟩) y159.length co39)) (ok := (fun k_ => some k_ ≠ (v157 : Value).ownBlock)) (by (with_reducible repeat (first | apply Kd.R_alloc | apply Kd.R_drewN | apply Kd.R_drew)); exact Kd.R_mono HO_12.out (fun _ hk => by first | exact ⟨hk.1.2, hk.2⟩ | simp_all)) hg (.inl rfl))).2.2) KL36.out)); clear HO_12; clear HO158; clear HO161; clear HB; clear HR152; have HO_12 := n0_; have HO158 := n1_; have HO161 := n2_; have HB := n3_; have HR152 := n4_; clear n0_ n1_ n2_ n3_ n4_; clear hg hw hp_) | ((with_reducible refine gate_callee (f := 51) rfl ?_); refine goesL_ (some 96) rfl rfl Try.func51 (by kernel_rfl) rfl #[.slice (some ⟨go32, 0, none⟩) y163.length co39] rfl (by (try simp only [List.map_toArray, List.map_cons, List.map_nil]); first | done | (rw [show y163.length = y159.length from (Kd.R_reads' HO161.out).1.symm] <;> rfl) | rfl | (simp only [List.length_drop, List.length_take]; rfl)) ?_; (with_reducible refine (frame_Get.calls kj16 _ _ y163 t164 t165 t166 t167 _ ?side1 ?side2 A33.out).mono ?_); (case side1 => repeat (first | exact (Kd.R_reads' HO161.out).2.2 | (with_reducible refine Kd.C_alloc ?_ _) | (with_reducible refine Kd.C_drewN ?_ _) | (with_reducible refine Kd.C_drew ?_))); (case side2 => rw [show y163.length = y159.length from (Kd.R_reads' HO161.out).1.symm]; exact (Kd.R_reads' HO161.out).2.1); rintro e w42 ⟨v168, rfl, ho0, hb⟩; refine ⟨_, rfl, ?_⟩; have n0_ := Aside0.mk (Kd.R_elder' (by (with_reducible repeat (first | apply Kd.R_alloc | apply Kd.R_drewN | apply Kd.R_drew)); exact HO_12.out) (Kd.R_base ho0) hb); have n1_ := Aside0.mk (Kd.R_elder' (by (with_reducible repeat (first | apply Kd.R_alloc | apply Kd.R_drewN | apply Kd.R_drew)); exact HO158.out) (Kd.R_base ho0) hb); have n2_ := Aside0.mk (Kd.R_elder' (by (with_reducible repeat (first | apply Kd.R_alloc | apply Kd.R_drewN | apply Kd.R_drew)); exact HO161.out) (Kd.R_base ho0) hb); have n3_ := Aside0.mk (Kd.R_lower (Kd.R_new' (Kd.R_new' (Kd.R_new' ho0 (Kd.R_lt (by (with_reducible repeat (first | apply Kd.R_alloc | apply Kd.R_drewN | apply Kd.R_drew)); exact HO_12.out))) (Kd.R_lt (by (with_reducible repeat (first | apply Kd.R_alloc | apply Kd.R_drewN | apply Kd.R_drew)); exact HO158.out))) (Kd.R_lt (by (with_reducible repeat (first | apply Kd.R_alloc | apply Kd.R_drewN | apply Kd.R_drew)); exact HO161.out))) (below_size (by repeat (first | (with_reducible first | exact HB.out | apply below_alloc | apply pw_below_drewN | apply below_drew1) | exact HB.out)))); have n4_ := Aside0.mk (Kd.C_below (by repeat (first | (with_reducible exact HR152.out) | (with_reducible refine Kd.C_alloc ?_ _) | (with_reducible refine Kd.C_drewN ?_ _) | (with_reducible refine Kd.C_drew ?_) | exact HR152.out)) hb); have n5_ := Aside0.mk (below_step (by repeat (first | (with_reducible first | exact HB.out | apply below_alloc | apply pw_below_drewN | apply below_drew1) | exact HB.out)) hb); clear HO_12; clear HO158; clear HO161; clear HR152; clear HB; have HO_12 := n0_; have HO158 := n1_; have HO161 := n2_; have HO169 := n3_; have HR152 := n4_; have HB := n5_; clear n0_ n1_ n2_ n3_ n4_ n5_; (try clear hb); (try clear hb2); (try clear hk); (try clear hi); (try clear ho0)))
                          (try simp only [Act.put, List.setIfInBounds_toArray, List.set_cons_zero, List.set_cons_succ])
                          go_cut [106] (fun v106 wc => ∃ (kq : Nat) (x106_33 : Bool), v106 = .bool x106_33 ∧ Aside0 (lysimeterlaw9_FrameTorn.j2 kq t156 t167 x106_33 = some r) ∧ Aside0 (kq ≤ kj16) ∧ Aside0 (Kd.C (Kd.int .u8) wc Ao35 y149.length y149) ∧ Aside0 (Below w.heap.size w wc))
                          case first =>
                            have H := HC34.out
                            clear HC34
                            by_cases c43 : (ji29) ≥ 1
                            · rw [if_pos c43] at H
                              have c43b0 : decide (1 ≤ (ji29)) = true := decide_eq_true c43
                              clear c43
                              (first | rw [c43b0] | (simp only [i64_w, i32_w]; rw [c43b0]) | skip)
                              have H' := Aside0.mk H
                              clear H
                              go_wp2
                              go_meet
                              case rel => exact ⟨_, (decide ((ji29) ≤ 4)), (by first | rfl | (simp; done) | (simp only [← hji29] <;> (first | rfl | simp)) | (simp [*]; done)), H', ⟨by have := HJ6.out; have := HJ16.out; first | omega | exact Nat.le_refl _⟩, ⟨by repeat (first | (with_reducible exact HR152.out) | (with_reducible refine Kd.C_alloc ?_ _) | (with_reducible refine Kd.C_drewN ?_ _) | (with_reducible refine Kd.C_drew ?_) | exact HR152.out)⟩, ⟨by repeat (first | (with_reducible first | exact HB.out | apply below_alloc | apply pw_below_drewN | apply below_drew1) | exact HB.out)⟩⟩
                            · rw [if_neg c43] at H
                              have c43b0 : decide (1 ≤ (ji29)) = false := decide_eq_false c43
                              clear c43
                              (first | rw [c43b0] | (simp only [i64_w, i32_w]; rw [c43b0]) | skip)
                              have H' := Aside0.mk H
                              clear H
                              go_wp2
                              go_meet
                              case rel => exact ⟨_, (false), (by first | rfl | (simp; done) | (simp [*]; done)), H', ⟨by have := HJ6.out; have := HJ16.out; first | omega | exact Nat.le_refl _⟩, ⟨by repeat (first | (with_reducible exact HR152.out) | (with_reducible refine Kd.C_alloc ?_ _) | (with_reducible refine Kd.C_drewN ?_ _) | (with_reducible refine Kd.C_drew ?_) | exact HR152.out)⟩, ⟨by repeat (first | (with_reducible first | exact HB.out | apply below_alloc | apply pw_below_drewN | apply below_drew1) | exact HB.out)⟩⟩
                          case rest =>
                            clear HC34
                            try clear c1
                            try clear p1
                            try clear q1
                            try clear hx1
                            try clear c2
                            try clear p2
                            try clear c3
                            try clear p3
                            try clear q3
                            try clear hx3
                            try clear c4
                            try clear c5
                            try clear c9
                            try clear c10
                            try clear c10b0
                            try clear c11
                            try clear c11b0
                            try clear c12
                            try clear c12b0
                            try clear c12b1
                            try clear c13
                            try clear c13b0
                            try clear c14
                            try clear c14b0
                            try clear c15
                            try clear p16
                            try clear q16
                            try clear hx16
                            try clear c20
                            try clear c20b0
                            try clear c20b1
                            try clear c22
                            try clear c23
                            try clear c23b0
                            try clear c23b1
                            try clear c23b2
                            try clear c25
                            try clear c25b0
                            try clear c25b1
                            try clear c26
                            try clear c26b0
                            try clear c26b1
                            try clear c28
                            try clear c30
                            try clear c30b0
                            try clear c31
                            try clear c31b0
                            try clear p32
                            try clear q32
                            try clear hx32
                            try clear hf32
                            try clear q36
                            try clear c43
                            try clear c43b0
                            try clear hx162_0
                            try clear hx32_0
                            try clear p162
                            try clear p2
                            try clear p32
                            try clear q162
                            try clear q32
                            try clear q36
                            obtain ⟨kq, x106_33, rfl, HA, HJ33, HR152, HB⟩ := hcut
                            cases kq with
                            | zero => exact absurd HA.out (by simp [lysimeterlaw9_FrameTorn.j2])
                            | succ kj33 =>
                              have H := HA.out
                              clear HA
                              simp only [lysimeterlaw9_FrameTorn.j2] at H
                              by_cases c44 : x106_33 = true
                              · subst c44
                                have H1 : ((lysimeterlaw9_num.f t156).bind fun t170 => (some (t170 == 5))) = some r := by rw [if_pos rfl] at H; exact H
                                clear H
                                have H := H1
                                clear H1
                                replace H := Option.bind_eq_some_iff.mp H
                                obtain ⟨t170, A450, H⟩ := H
                                replace H : (some (t170 == 5)) = some r := H
                                have A45 := Aside0.mk A450
                                clear A450
                                obtain rfl := Option.some.inj H
                                go_wp2_with (first | ((with_reducible refine gate_callee (f := 50) rfl ?_); refine goesL_ (some 108) rfl rfl Try.func50 (by kernel_rfl) rfl #[.int .i64 t156] rfl (by (try simp only [List.map_toArray, List.map_cons, List.map_nil]); first | done | rfl | (simp only [List.length_drop, List.length_take]; rfl)) ?_; (with_reducible refine (lysimeterlaw9_num.calls t156 t170 _ A45.out).mono ?_); rintro e w' ⟨rfl, ⟨nd, rfl⟩⟩; refine ⟨_, rfl, ?_⟩))
                                go_ret
                                exact ⟨by first | rfl | (simp [errW_none, errW_some] <;> rfl) | (simp only [← hji24, ← hji29]; first | rfl | (simp [errW_none, errW_some] <;> rfl)) | (simp [*, errW_none, errW_some] <;> rfl), by repeat (first | (with_reducible first | exact HB.out | apply below_alloc | apply pw_below_drewN | apply below_drew1) | exact HB.out)⟩
                              · replace c44 := Bool.eq_false_iff.mpr c44
                                subst c44
                                have H1 : ((lysimeterlaw9_num.f t156).bind fun t171 => (if t171 = 5 then ((lysimeterlaw9_num.f t167).bind fun t172 => (some (t172 == 5))) else (some false))) = some r := by rw [if_neg (show ¬ (false = true) by decide)] at H; exact H
                                clear H
                                have H := H1
                                clear H1
                                replace H := Option.bind_eq_some_iff.mp H
                                obtain ⟨t171, A460, H⟩ := H
                                replace H : (if t171 = 5 then ((lysimeterlaw9_num.f t167).bind fun t172 => (some (t172 == 5))) else (some false)) = some r := H
                                have A46 := Aside0.mk A460
                                clear A460
                                by_cases c47 : t171 = 5
                                · rw [if_pos c47] at H
                                  have c47b0 : (t171 == 5) = true := beq_iff_eq.mpr c47
                                  have c47b1 : (t171 != 5) = false := bne_eq_false_iff_eq.mpr c47
                                  clear c47
                                  replace H := Option.bind_eq_some_iff.mp H
                                  obtain ⟨t172, A480, H⟩ := H
                                  replace H : (some (t172 == 5)) = some r := H
                                  have A48 := Aside0.mk A480
                                  clear A480
                                  obtain rfl := Option.some.inj H
                                  go_wp2_with (first | ((with_reducible refine gate_callee (f := 50) rfl ?_); refine goesL_ (some 111) rfl rfl Try.func50 (by kernel_rfl) rfl #[.int .i64 t156] rfl (by (try simp only [List.map_toArray, List.map_cons, List.map_nil]); first | done | rfl | (simp only [List.length_drop, List.length_take]; rfl)) ?_; (with_reducible refine (lysimeterlaw9_num.calls t156 t171 _ A46.out).mono ?_); rintro e w' ⟨rfl, ⟨nd, rfl⟩⟩; refine ⟨_, rfl, ?_⟩) | (go_at_call 50; (with_reducible refine (lysimeterlaw9_num.calls t167 t172 _ A48.out).mono ?_); rintro e w' ⟨rfl, ⟨nd, rfl⟩⟩))
                                  go_ret
                                  exact ⟨by first | rfl | (simp [errW_none, errW_some] <;> rfl) | (simp only [← hji24, ← hji29]; first | rfl | (simp [errW_none, errW_some] <;> rfl)) | (simp [*, errW_none, errW_some] <;> rfl), by repeat (first | (with_reducible first | exact HB.out | apply below_alloc | apply pw_below_drewN | apply below_drew1) | exact HB.out)⟩
                                · rw [if_neg c47] at H
                                  have c47b0 : (t171 == 5) = false := beq_eq_false_iff_ne.mpr c47
                                  have c47b1 : (t171 != 5) = true := bne_iff_ne.mpr c47
                                  exact absurd ((Option.some.inj H).trans Hr_.out) (by simp)
                        · rw [if_neg c31] at H
                          exact absurd H (by simp)
                      · rw [if_neg c30] at H
                        exact absurd H (by simp)
                    · rw [if_neg c28] at H
                      exact absurd H (by simp)
                  · rw [if_neg c26] at H
                    exact absurd H (by simp)
                · rw [if_neg c25] at H
                  exact absurd H (by simp)

/-- THE ONE PURE STATEMENT of lysimeterlaw9_FrameTorn: yours. -/
def lysimeterlaw9_FrameTorn.Pure : Prop := ∀ (a0 : Int) (l1 : List Int) (a2 : Int) (a3 : Int) (a4 : Int), (Lit.int .i64 a0).wf = true → l1.length ≤ maxLen → l1.length * 1 ≤ 140737488351232 → (∀ x ∈ l1, (Lit.int .u8 x).wf = true) → (Lit.int .i64 a2).wf = true → (Lit.int .i64 a3).wf = true → (Lit.int .u8 a4).wf = true → ∃ k, lysimeterlaw9_FrameTorn.f k a0 l1 a2 a3 a4 = some true
theorem lysimeterlaw9_FrameTorn.walk (P : lysimeterlaw9_FrameTorn.Pure) (a0 : Int) (a1 : Option Addr) (len1 cap1 : Nat) (z1 : List Int) (a2 : Int) (a3 : Int) (a4 : Int) (w : World) (w0 : (Lit.int .i64 a0).wf = true) (w1 : (a1 = none ∧ len1 = 0 ∧ cap1 = 0 ∧ z1 = []) ∨ ∃ x, a1 = some x ∧ len1 ≤ cap1 ∧ cap1 ≤ maxLen ∧ z1.length = cap1 ∧ (∀ i, i < z1.length → w.cell? (x.add i) = some (.int .u8 (z1.getD i 0))) ∧ ∀ n ∈ z1, (Lit.int .u8 n).wf = true) (y1 : len1 * 1 ≤ 140737488351232) (w2 : (Lit.int .i64 a2).wf = true) (w3 : (Lit.int .i64 a3).wf = true) (w4 : (Lit.int .u8 a4).wf = true) :
    Calls Try.prog 13 #[.int .i64 a0, .slice a1 len1 cap1, .int .i64 a2, .int .i64 a3, .int .u8 a4] w fun e w' => e = .returned (.bool true) ∧ Below w.heap.size w w' := by
  obtain ⟨l1, rfl, hr1, hm1, hw1, hc1⟩ := ReadsInt.ofRowC w1
  obtain ⟨k, h⟩ := P a0 l1 a2 a3 a4 w0 hm1 y1 hw1 w2 w3 w4
  refine (lysimeterlaw9_FrameTorn.calls k a0 _ _ l1 a2 a3 a4 true w (Kd.C_of_reads (d := (0 : Int)) (h1 := fun _ => rfl) hr1) hc1 rfl h).mono ?_
  rintro e w' ⟨rfl, hd⟩
  exact ⟨rfl, hd⟩

end Go.Proofs.Ytjilnpbgclnecaa.PFrameTorn
