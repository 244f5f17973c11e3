/- Written by a program of this session out of the translation: for Go functions Lean functions of the same answers, and the proof that the calls come to these answers. -/
import Derived.WalkLawsBesides
import Derived.Test.YtjilnpbgclnecabXTight
import Derived.Test.YtjilnpbgclnecabPManifestPacksx0
import Derived.Test.YtjilnpbgclnecabPManifestPacksx3
namespace Go.Proofs.Ytjilnpbgclnecab.PManifestPacks
open Go.RowKit Go.Proofs.YtjilnpbgclnecabW.PrintWords Go.Proofs.YtjilnpbgclnecabW.PrintLast Go.Proofs.YtjilnpbgclnecabW.PrintMore Go.Proofs.Ytjilnpbgclnecab.XB
attribute [local go_sem] sg_u8 sg_u16 sg_u32 sg_u64 mx_u8 mx_u16 mx_u32 mx_u64
attribute [local go_sem] max2_int min2_int max_two min_two max_three min_three max_four min_four   -- for this text's walks alone
set_option linter.unusedVariables false
set_option linter.unusedSimpArgs false

/-! ### varint_Put: function 62 -/
def varint_Put.l0 : Nat → List Int → Int → Option (List Int)
 | 0, _, _ => none
 | k + 1, x3, x4 => if x4 ≥ 128 then (if x3.length < 140737488355328 then (varint_Put.l0 k (x3 ++ [Go.bits .or .u8 ((x4) % 256) 128]) (x4 / 128)) else (none)) else (if x3.length < 140737488355328 then (some (x3 ++ [(x4) % 256])) else (none))
def varint_Put.f (k : Nat) (a0 : Int) : Option (List Int) := varint_Put.l0 k ([] : List Int) (IntKind.u64.wrap (a0))
theorem varint_Put.mono_l : ∀ k, (∀ y0 y1, LeO (varint_Put.l0 k y0 y1) (varint_Put.l0 (k + 1) y0 y1))
 | 0 => fun _ _ r h => by simp [varint_Put.l0] at h
 | k + 1 => by
  have ih0 := varint_Put.mono_l k
  ·intro y0 y1
   unfold varint_Put.l0
   repeat' first
   | (with_reducible exact ih0 _ _)
   | (with_reducible exact LeO.refl _)
   | (with_reducible exact LeO.none _)
   | (with_reducible refine LeO.ite ?_ ?_)
   | (with_reducible refine LeO.bind ?_ (fun _ => ?_))
   | exact ih0 _ _
   | exact LeO.none _
   | refine LeO.ite ?_ ?_
   | refine LeO.bind ?_ (fun _ => ?_)
theorem varint_Put.mono : ∀ a0 k, LeO (varint_Put.f k a0) (varint_Put.f (k + 1) a0) := by
 intro a0 k
 have ih0 := varint_Put.mono_l k
 unfold varint_Put.f
 repeat' first
   | (with_reducible exact ih0 _ _)
   | (with_reducible exact LeO.refl _)
   | (with_reducible exact LeO.none _)
   | (with_reducible refine LeO.ite ?_ ?_)
   | (with_reducible refine LeO.bind ?_ (fun _ => ?_))
   | exact ih0 _ _
   | exact LeO.none _
   | refine LeO.ite ?_ ?_
   | refine LeO.bind ?_ (fun _ => ?_)
set_option maxHeartbeats 8000000 in
set_option maxRecDepth 100000 in
theorem varint_Put.calls (k : Nat) (a0 : Int) (r : List Int) (w : World) (h : varint_Put.f k a0 = some r) :
  Calls Try.prog 62 #[.int .i64 a0] w fun e w' => ∃ v0_ : Value, e = .returned (v0_) ∧ Kd.R (Kd.int .u8) 5 w' w.heap.size (fun _ => True) v0_ r ∧ Below w.heap.size w w' := by
 have HB := Aside0.mk (Below.refl w.heap.size w)
 have H : (varint_Put.l0 k ([] : List Int) (IntKind.u64.wrap (a0))) = some r := h
 clear h
 have H' := Aside0.mk H
 clear H
 go_enter Try.func62, Try.ntmps62
 go_wp2
 go_loopg [3, 4] k (fun kq v3 v4 w' => ∃ (x3_1 : List Int) (x4_1 : Int), v4 = .int .u64 x4_1 ∧ Aside0 (varint_Put.l0 kq x3_1 x4_1 = some r) ∧ Aside0 (kq ≤ k) ∧ Aside0 (Kd.R (Kd.int .u8) 5 w' w.heap.size (fun _ => True) v3 x3_1) ∧ Aside0 (Below w.heap.size w w'))
 case atStart => exact ⟨(([] : List Int)), (IntKind.u64.wrap (a0)), (by first | rfl | (simp; done) | (simp [*]; done)), H', ⟨Nat.le_refl _⟩, ⟨by first | exact Kd.R_nil _ _ _ _ _ | exact Kd.N_nil _ _ _ _ _ | exact Kd.V_nil _ _ _ _ _ | exact Kd.Q_nil _ _ _ _ _ | exact Kd.S_nil _ _ _ _ _⟩, ⟨by repeat (first | (with_reducible first | exact HB.out | apply below_alloc | apply pw_below_drewN | apply below_drew1) | exact HB.out)⟩⟩
 case round =>
  clear H'
  obtain ⟨x3_1, x4_1, rfl, HA, HK1, HO_3, HB⟩ := hrel
  cases gk with
  | zero => exact absurd HA.out (by simp [varint_Put.l0])
  | succ k1 =>
   have H := HA.out
   clear HA
   simp only [varint_Put.l0] at H
   by_cases c2 : x4_1 ≥ 128
   ·rw [if_pos c2] at H
    have c2b0 : decide (128 ≤ x4_1) = true := decide_eq_true c2
    clear c2
    by_cases c3 : x3_1.length < 140737488355328
    ·rw [if_pos c3] at H
     have LMc3 := Aside0.mk c3
     clear c3
     obtain ⟨y147, hy147⟩ : ∃ y_ : List Int, y_ = (x3_1 ++ [Go.bits .or .u8 ((x4_1) % 256) 128]) := ⟨_, rfl⟩
     replace H : (varint_Put.l0 k1 y147 (x4_1 / 128)) = some r := by first | (rw [hy147]; with_reducible exact H) | (have H2_ := (Option.bind_some _ _).symm.trans H; rw [hy147]; with_reducible exact H2_) | (have H2_ := (Option.bind_some _ _).symm.trans H; with_reducible exact H2_) | with_reducible exact H | (rw [hy147]; exact H) | exact H
     have Ny147 := Aside0.mk hy147
     clear hy147
     have H' := Aside0.mk H
     clear H
     go_wp2_with (first | ((with_reducible refine gate_builtin (b := .append) (xs := #[.tmp 9, .tmp 13]) rfl ?_); at_builtin; refine Kd.R_append (Kd.int .u8) (w0 := w) w.heap.size rfl (.tmp 9) (.tmp 13) 22 5 (.int .u8 0) 1 rfl Try.underlying22 info5 rfl (by decide) (by omega) u3 x3_1 (Go.bits .or .u8 ((x4_1) % 256) 128) [.int .u8 (Go.bits .or .u8 ((x4_1) % 256) 128)] (fun _ => True) (fun _ => False) rfl rfl ?aP (fun _ hk => hk.elim) ?aF ?aO ?aB ?aS ?aL ?_; (case aP => exact rfl); (case aB => exact (by repeat (first | (with_reducible first | exact HB.out | apply below_alloc | apply pw_below_drewN | apply below_drew1) | exact HB.out))); (case aF => exact (fun _ _ => trivial)); (case aO => exact (by (with_reducible repeat (first | apply Kd.R_alloc | apply Kd.R_drewN | apply Kd.R_drew)); exact HO_3.out)); (case aS => exact (below_size (by repeat (first | (with_reducible first | exact HB.out | apply below_alloc | apply pw_below_drewN | apply below_drew1) | exact HB.out)))); (case aL => have := LMc3.out; omega); intro v148 w4 ho hb hg hat; rw [← Ny147.out] at ho; have n0_ := Aside0.mk (hb); have n1_ := Aside0.mk (ho); clear HB; clear HO_3; have HB := n0_; have HO149 := n1_; clear n0_ n1_; clear ho hb hg hat))
     go_roundg k1
     case measure => have := HK1.out; omega
     case rel => exact ⟨(y147), (x4_1 / 128), (by first | rfl | (simp; done) | (simp [*]; done)), H', ⟨by have := HK1.out; omega⟩, ⟨by (with_reducible repeat (first | apply Kd.R_alloc | apply Kd.R_drewN | apply Kd.R_drew)); exact HO149.out⟩, ⟨by repeat (first | (with_reducible first | exact HB.out | apply below_alloc | apply pw_below_drewN | apply below_drew1) | exact HB.out)⟩⟩
    ·rw [if_neg c3] at H
     exact absurd H (by simp)
   ·rw [if_neg c2] at H
    have c2b0 : decide (128 ≤ x4_1) = false := decide_eq_false c2
    clear c2
    by_cases c5 : x3_1.length < 140737488355328
    ·rw [if_pos c5] at H
     have LMc5 := Aside0.mk c5
     clear c5
     obtain ⟨y150, hy150⟩ : ∃ y_ : List Int, y_ = (x3_1 ++ [(x4_1) % 256]) := ⟨_, rfl⟩
     replace H : (some y150) = some r := by first | (rw [hy150]; with_reducible exact H) | (have H2_ := (Option.bind_some _ _).symm.trans H; rw [hy150]; with_reducible exact H2_) | (have H2_ := (Option.bind_some _ _).symm.trans H; with_reducible exact H2_) | with_reducible exact H | (rw [hy150]; exact H) | exact H
     have Ny150 := Aside0.mk hy150
     clear hy150
     obtain rfl := Option.some.inj H
     go_wp2_with (first | ((with_reducible refine gate_builtin (b := .append) (xs := #[.tmp 17, .tmp 20]) rfl ?_); at_builtin; refine Kd.R_append (Kd.int .u8) (w0 := w) w.heap.size rfl (.tmp 17) (.tmp 20) 22 5 (.int .u8 0) 1 rfl Try.underlying22 info5 rfl (by decide) (by omega) u3 x3_1 ((x4_1) % 256) [.int .u8 ((x4_1) % 256)] (fun _ => True) (fun _ => False) rfl rfl ?aP (fun _ hk => hk.elim) ?aF ?aO ?aB ?aS ?aL ?_; (case aP => exact rfl); (case aB => exact (by repeat (first | (with_reducible first | exact HB.out | apply below_alloc | apply pw_below_drewN | apply below_drew1) | exact HB.out))); (case aF => exact (fun _ _ => trivial)); (case aO => exact (by (with_reducible repeat (first | apply Kd.R_alloc | apply Kd.R_drewN | apply Kd.R_drew)); exact HO_3.out)); (case aS => exact (below_size (by repeat (first | (with_reducible first | exact HB.out | apply below_alloc | apply pw_below_drewN | apply below_drew1) | exact HB.out)))); (case aL => have := LMc5.out; omega); intro v151 w6 ho hb hg hat; rw [← Ny150.out] at ho; have n0_ := Aside0.mk (hb); have n1_ := Aside0.mk (ho); clear HB; clear HO_3; have HB := n0_; have HO152 := n1_; clear n0_ n1_; clear ho hb hg hat))
     go_ret
     exact ⟨_, by first | rfl | (simp [errW_none, errW_some] <;> rfl) | (simp [*, errW_none, errW_some] <;> rfl), by (with_reducible repeat (first | apply Kd.R_alloc | apply Kd.R_drewN | apply Kd.R_drew)); exact HO152.out, by repeat (first | (with_reducible first | exact HB.out | apply below_alloc | apply pw_below_drewN | apply below_drew1) | exact HB.out)⟩
    ·rw [if_neg c5] at H
     exact absurd H (by simp)

/-! ### frame_more: function 51 -/
mutual
def frame_more.l0 : Nat → Int → List Int → Int → Int → Option (Int)
 | 0, _, _, _, _ => none
 | k + 1, x0, x8, x9, x10 => if x10 < x9 then (if 0 ≤ x10 then (if x10 < (x8.length : Int) then (frame_more.l1 k (Go.bits .xor .u32 x0 ((rd x8 x10) % 4294967296)) x8 x9 x10 0) else (none)) else (none)) else (some x0)
def frame_more.l1 : Nat → Int → List Int → Int → Int → Int → Option (Int)
 | 0, _, _, _, _, _ => none
 | k + 1, x0, x8, x9, x10, x18 => if x18 < 8 then (if (Go.bits .and .u32 x0 1) = 0 then (frame_more.l1 k (x0 / 2) x8 x9 x10 (wrap64 (x18 + 1))) else (frame_more.l1 k (Go.bits .xor .u32 (x0 / 2) 2197175160) x8 x9 x10 (wrap64 (x18 + 1)))) else (frame_more.l0 k x0 x8 x9 (wrap64 (x10 + 1)))
end
def frame_more.f (k : Nat) (a0 : Int) (l1 : List Int) : Option (Int) := frame_more.l0 k a0 l1 (l1.length : Int) 0
theorem frame_more.mono_l : ∀ k, (∀ y0 y1 y2 y3, LeO (frame_more.l0 k y0 y1 y2 y3) (frame_more.l0 (k + 1) y0 y1 y2 y3)) ∧ (∀ y0 y1 y2 y3 y4, LeO (frame_more.l1 k y0 y1 y2 y3 y4) (frame_more.l1 (k + 1) y0 y1 y2 y3 y4))
 | 0 => ⟨fun _ _ _ _ r h => by simp [frame_more.l0] at h, fun _ _ _ _ _ r h => by simp [frame_more.l1] at h⟩
 | k + 1 => by
  obtain ⟨ih0, ih1⟩ := frame_more.mono_l k
  refine ⟨?_, ?_⟩
  ·intro y0 y1 y2 y3
   unfold frame_more.l0
   repeat' first
   | (with_reducible exact ih0 _ _ _ _)
   | (with_reducible exact ih1 _ _ _ _ _)
   | (with_reducible exact LeO.refl _)
   | (with_reducible exact LeO.none _)
   | (with_reducible refine LeO.ite ?_ ?_)
   | (with_reducible refine LeO.bind ?_ (fun _ => ?_))
   | exact ih0 _ _ _ _
   | exact ih1 _ _ _ _ _
   | exact LeO.none _
   | refine LeO.ite ?_ ?_
   | refine LeO.bind ?_ (fun _ => ?_)
  ·intro y0 y1 y2 y3 y4
   unfold frame_more.l1
   repeat' first
   | (with_reducible exact ih0 _ _ _ _)
   | (with_reducible exact ih1 _ _ _ _ _)
   | (with_reducible exact LeO.refl _)
   | (with_reducible exact LeO.none _)
   | (with_reducible refine LeO.ite ?_ ?_)
   | (with_reducible refine LeO.bind ?_ (fun _ => ?_))
   | exact ih0 _ _ _ _
   | exact ih1 _ _ _ _ _
   | exact LeO.none _
   | refine LeO.ite ?_ ?_
   | refine LeO.bind ?_ (fun _ => ?_)
theorem frame_more.mono : ∀ a0 a1 k, LeO (frame_more.f k a0 a1) (frame_more.f (k + 1) a0 a1) := by
 intro a0 a1 k
 obtain ⟨ih0, ih1⟩ := frame_more.mono_l k
 unfold frame_more.f
 repeat' first
   | (with_reducible exact ih0 _ _ _ _)
   | (with_reducible exact ih1 _ _ _ _ _)
   | (with_reducible exact LeO.refl _)
   | (with_reducible exact LeO.none _)
   | (with_reducible refine LeO.ite ?_ ?_)
   | (with_reducible refine LeO.bind ?_ (fun _ => ?_))
   | exact ih0 _ _ _ _
   | exact ih1 _ _ _ _ _
   | exact LeO.none _
   | refine LeO.ite ?_ ?_
   | refine LeO.bind ?_ (fun _ => ?_)
set_option maxHeartbeats 8000000 in
set_option maxRecDepth 100000 in
theorem frame_more.calls (k : Nat) (a0 : Int) (A1 : Option Addr) (c1 : Nat) (l1 : List Int) (r : Int) (w : World) (hr1 : Kd.C (Kd.int .u8) w A1 l1.length l1) (hc1 : l1.length ≤ c1) (h : frame_more.f k a0 l1 = some r) :
  Calls Try.prog 51 #[.int .u32 a0, .slice A1 l1.length c1] w fun e w' => e = .returned (.int .u32 r) ∧ Drawn0 w w' := by
 have HR1 := Aside0.mk hr1
 have HC1 := Aside0.mk hc1
 clear hr1 hc1
 have H : (frame_more.l0 k a0 l1 (l1.length : Int) 0) = some r := h
 clear h
 have H' := Aside0.mk H
 clear H
 go_enter Try.func51, Try.ntmps51
 go_wp2
 go_loopg [0, 10] k (fun kq v0 v10 w' => ∃ (x0_1 : Int) (x10_1 : Int), v0 = .int .u32 x0_1 ∧ v10 = .int .i64 x10_1 ∧ Aside0 (frame_more.l0 kq x0_1 l1 (l1.length : Int) x10_1 = some r) ∧ Aside0 (kq ≤ k) ∧ Drawn0 w w')
 case atStart => exact ⟨(a0), (0), (by first | rfl | (simp; done) | (simp [*]; done)), (by first | rfl | (simp; done) | (simp [*]; done)), H', ⟨Nat.le_refl _⟩, by repeat (first | exact Drawn0.refl _ | apply Drawn0.step)⟩
 case round =>
  clear H'
  (try clear c1); (try clear p2)
  obtain ⟨x0_1, x10_1, rfl, rfl, HA, HK1, ⟨m1, rfl⟩⟩ := hrel
  cases gk with
  | zero => exact absurd HA.out (by simp [frame_more.l0])
  | succ k1 =>
   have H := HA.out
   clear HA
   simp only [frame_more.l0] at H
   by_cases c3 : x10_1 < (l1.length : Int)
   ·rw [if_pos c3] at H
    have c3b0 : decide (x10_1 < (l1.length : Int)) = true := decide_eq_true c3
    clear c3
    by_cases c4 : 0 ≤ x10_1
    ·rw [if_pos c4] at H
     have c4b0 : decide (0 ≤ x10_1) = true := decide_eq_true c4
     clear c4
     by_cases c5 : x10_1 < (l1.length : Int)
     ·rw [if_pos c5] at H
      have c5b0 : decide (x10_1 < (l1.length : Int)) = true := decide_eq_true c5
      clear c5
      have H' := Aside0.mk H
      clear H
      have p153 : 0 ≤ (x10_1 : Int) := of_decide_eq_true (by first | (with_reducible assumption) | assumption)
      have q153 : x10_1 < (l1.length : Int) := of_decide_eq_true (by first | (with_reducible assumption) | assumption)
      obtain ⟨ad153, e153, hx153_0⟩ := Kd.at_int HR1.out x10_1 p153 q153
      cases e153
      replace p153 := eq_true p153
      replace q153 := eq_true q153
      go_wp2
      go_loopg [0, 18] k1 (fun kq v0 v18 w' => ∃ (x0_2 : Int) (x18_2 : Int), v0 = .int .u32 x0_2 ∧ v18 = .int .i64 x18_2 ∧ Aside0 (frame_more.l1 kq x0_2 l1 (l1.length : Int) x10_1 x18_2 = some r) ∧ Aside0 (kq ≤ k1) ∧ Drawn0 w w')
      case atStart => exact ⟨(Go.bits .xor .u32 x0_1 ((rd l1 x10_1) % 4294967296)), (0), (by first | rfl | (simp; done) | (simp [*]; done)), (by first | rfl | (simp; done) | (simp [*]; done)), H', ⟨Nat.le_refl _⟩, by repeat (first | exact Drawn0.refl _ | apply Drawn0.step)⟩
      case round =>
       clear H'
       (try clear c1); (try clear p1); (try clear q1); (try clear hx1); (try clear p2); (try clear c3); (try clear c3b0); (try clear c4); (try clear c4b0); (try clear c5); (try clear c5b0); (try clear hx153_0); (try clear p153); (try clear p2); (try clear q153)
       obtain ⟨x0_2, x18_2, rfl, rfl, HA, HK2, ⟨m2, rfl⟩⟩ := hrel
       cases gk with
       | zero => exact absurd HA.out (by simp [frame_more.l1])
       | succ k2 =>
        have H := HA.out
        clear HA
        simp only [frame_more.l1] at H
        by_cases c6 : x18_2 < 8
        ·rw [if_pos c6] at H
         have c6b0 : decide (x18_2 < 8) = true := decide_eq_true c6
         clear c6
         by_cases c7 : (Go.bits .and .u32 x0_2 1) = 0
         ·rw [if_pos c7] at H
          have c7b0 : ((Go.bits .and .u32 x0_2 1) == 0) = true := beq_iff_eq.mpr c7
          have c7b1 : ((Go.bits .and .u32 x0_2 1) != 0) = false := bne_eq_false_iff_eq.mpr c7
          clear c7
          have H' := Aside0.mk H
          clear H
          go_wp2
          go_roundg k2
          case measure => have := HK1.out; have := HK2.out; omega
          case rel => exact ⟨(x0_2 / 2), (wrap64 (x18_2 + 1)), (by first | rfl | (simp; done) | (simp [*]; done)), (by first | rfl | (simp; done) | (simp [*]; done)), H', ⟨by have := HK1.out; have := HK2.out; omega⟩, by repeat (first | exact Drawn0.refl _ | apply Drawn0.step)⟩
         ·rw [if_neg c7] at H
          have c7b0 : ((Go.bits .and .u32 x0_2 1) == 0) = false := beq_eq_false_iff_ne.mpr c7
          have c7b1 : ((Go.bits .and .u32 x0_2 1) != 0) = true := bne_iff_ne.mpr c7
          have H' := Aside0.mk H
          clear H
          go_wp2
          go_roundg k2
          case measure => have := HK1.out; have := HK2.out; omega
          case rel => exact ⟨(Go.bits .xor .u32 (x0_2 / 2) 2197175160), (wrap64 (x18_2 + 1)), (by first | rfl | (simp; done) | (simp [*]; done)), (by first | rfl | (simp; done) | (simp [*]; done)), H', ⟨by have := HK1.out; have := HK2.out; omega⟩, by repeat (first | exact Drawn0.refl _ | apply Drawn0.step)⟩
        ·rw [if_neg c6] at H
         have c6b0 : decide (x18_2 < 8) = false := decide_eq_false c6
         clear c6
         have H' := Aside0.mk H
         clear H
         go_wp2
         go_roundg k2
         case measure => have := HK1.out; have := HK2.out; omega
         case rel => exact ⟨(x0_2), (wrap64 (x10_1 + 1)), (by first | rfl | (simp; done) | (simp [*]; done)), (by first | rfl | (simp; done) | (simp [*]; done)), H', ⟨by have := HK1.out; have := HK2.out; omega⟩, by repeat (first | exact Drawn0.refl _ | apply Drawn0.step)⟩
     ·rw [if_neg c5] at H
      exact absurd H (by simp)
    ·rw [if_neg c4] at H
     exact absurd H (by simp)
   ·rw [if_neg c3] at H
    have c3b0 : decide (x10_1 < (l1.length : Int)) = false := decide_eq_false c3
    clear c3
    obtain rfl := Option.some.inj H
    go_wp2
    go_ret
    exact ⟨by first | rfl | (simp; done) | (simp [*]; done), by repeat (first | exact Drawn0.refl _ | apply Drawn0.step)⟩

/-! ### frame_Sum: function 49 -/
def frame_Sum.f (k : Nat) (l0 : List Int) : Option (Int) := (frame_more.f k 4294967295 l0).bind fun t154 => (some (wrap64 (Go.bits .xor .u32 4294967295 t154)))
theorem frame_Sum.mono : ∀ a0 k, LeO (frame_Sum.f k a0) (frame_Sum.f (k + 1) a0) := by
 intro a0 k
 unfold frame_Sum.f
 repeat' first
   | (with_reducible exact frame_more.mono _ _ _)
   | (with_reducible exact LeO.refl _)
   | (with_reducible exact LeO.none _)
   | (with_reducible refine LeO.ite ?_ ?_)
   | (with_reducible refine LeO.bind ?_ (fun _ => ?_))
   | exact frame_more.mono _ _ _
   | exact LeO.none _
   | refine LeO.ite ?_ ?_
   | refine LeO.bind ?_ (fun _ => ?_)
set_option maxHeartbeats 8000000 in
set_option maxRecDepth 100000 in
theorem frame_Sum.calls (k : Nat) (A0 : Option Addr) (c0 : Nat) (l0 : List Int) (r : Int) (w : World) (hr0 : Kd.C (Kd.int .u8) w A0 l0.length l0) (hc0 : l0.length ≤ c0) (h : frame_Sum.f k l0 = some r) :
  Calls Try.prog 49 #[.slice A0 l0.length c0] w fun e w' => e = .returned (.int .i64 r) ∧ Drawn0 w w' := by
 have HR0 := Aside0.mk hr0
 have HC0 := Aside0.mk hc0
 clear hr0 hc0
 have H : ((frame_more.f k 4294967295 l0).bind fun t154 => (some (wrap64 (Go.bits .xor .u32 4294967295 t154)))) = some r := h
 clear h
 replace H := Option.bind_eq_some_iff.mp H
 obtain ⟨t154, A20, H⟩ := H
 replace H : (some (wrap64 (Go.bits .xor .u32 4294967295 t154))) = some r := H
 have A2 := Aside0.mk A20
 clear A20
 obtain rfl := Option.some.inj H
 go_enter Try.func49, Try.ntmps49
 go_wp2_with (first | ((with_reducible refine gate_callee (f := 51) rfl ?_); refine goesL_ (some 4) rfl rfl Try.func51 (by kernel_rfl) rfl #[.int .u32 4294967295, .slice A0 l0.length c0] rfl (by (try simp only [List.map_toArray, List.map_cons, List.map_nil]); first | done | rfl | (simp only [List.length_drop, List.length_take]; rfl)) ?_; (with_reducible refine (frame_more.calls k 4294967295 _ _ l0 t154 _ ?side1 ?side2 A2.out).mono ?_); (case side1 => repeat (first | exact HR0.out | (with_reducible refine Kd.C_alloc ?_ _) | (with_reducible refine Kd.C_drewN ?_ _) | (with_reducible refine Kd.C_drew ?_))); (case side2 => exact HC0.out); rintro e w' ⟨rfl, ⟨nd, rfl⟩⟩; refine ⟨_, rfl, ?_⟩))
 go_ret
 exact ⟨by first | rfl | (simp; done) | (simp [*]; done), by repeat (first | exact Drawn0.refl _ | apply Drawn0.step)⟩

/-! ### block_Summed: function 70 -/
def block_Summed.f (k : Nat) (l0 : List Int) : Option (List Int) := (frame_Sum.f k l0).bind fun t155 => ((some (([(t155) % 256, (t155 / 256) % 256, (t155 / 65536) % 256, (t155 / 16777216) % 256] : List Int) : List Int)).bind fun y156 => (if l0.length + y156.length < 140737488355328 then (some (l0 ++ y156)) else (none)))
theorem block_Summed.mono : ∀ a0 k, LeO (block_Summed.f k a0) (block_Summed.f (k + 1) a0) := by
 intro a0 k
 unfold block_Summed.f
 repeat' first
   | (with_reducible exact frame_Sum.mono _ _)
   | (with_reducible exact LeO.refl _)
   | (with_reducible exact LeO.none _)
   | (with_reducible refine LeO.ite ?_ ?_)
   | (with_reducible refine LeO.bind ?_ (fun _ => ?_))
   | exact frame_Sum.mono _ _
   | exact LeO.none _
   | refine LeO.ite ?_ ?_
   | refine LeO.bind ?_ (fun _ => ?_)
set_option maxHeartbeats 8000000 in
set_option maxRecDepth 100000 in
theorem block_Summed.calls (k : Nat) (P0_ : Nat → Prop) (u9000_ : Value) (l0 : List Int) (r : List Int) (w0 w : World) (hB : Below w0.heap.size w0 w) (ho0 : Kd.R (Kd.int .u8) 5 w w0.heap.size P0_ u9000_ l0) (h : block_Summed.f k l0 = some r) :
  Calls Try.prog 70 #[u9000_] w fun e w' => ∃ v0_ : Value, e = .returned (v0_) ∧ Kd.R (Kd.int .u8) 5 w' w0.heap.size (fun k_ => (P0_ k_ ∨ w.heap.size ≤ k_)) v0_ r ∧ Below w0.heap.size w0 w' ∧ Kept w w' (fun k_ => P0_ k_) := by
 have HO0 := Aside0.mk (show Kd.R (Kd.int .u8) 5 w w0.heap.size (fun k_ => (P0_ k_ ∨ w.heap.size ≤ k_)) u9000_ l0 from Kd.R_mono ho0 (fun k_ hk => (.inl hk)))
 have HK := Aside0.mk (Kept.refl w (fun k_ => P0_ k_))
 have HW0 := Aside0.mk hB.size
 have HB := Aside0.mk hB
 clear hB
 have H : ((frame_Sum.f k l0).bind fun t155 => ((some (([(t155) % 256, (t155 / 256) % 256, (t155 / 65536) % 256, (t155 / 16777216) % 256] : List Int) : List Int)).bind fun y156 => (if l0.length + y156.length < 140737488355328 then (some (l0 ++ y156)) else (none)))) = some r := h
 clear h
 replace H := Option.bind_eq_some_iff.mp H
 obtain ⟨t155, A20, H⟩ := H
 replace H : ((some (([(t155) % 256, (t155 / 256) % 256, (t155 / 65536) % 256, (t155 / 16777216) % 256] : List Int) : List Int)).bind fun y156 => (if l0.length + y156.length < 140737488355328 then (some (l0 ++ y156)) else (none))) = some r := H
 have A2 := Aside0.mk A20
 clear A20
 obtain ⟨y156, hy156⟩ : ∃ y_ : List Int, y_ = (([(t155) % 256, (t155 / 256) % 256, (t155 / 65536) % 256, (t155 / 16777216) % 256] : List Int)) := ⟨_, rfl⟩
 replace H : (if l0.length + y156.length < 140737488355328 then (some (l0 ++ y156)) else (none)) = some r := by first | (rw [hy156]; with_reducible exact H) | (have H2_ := (Option.bind_some _ _).symm.trans H; rw [hy156]; with_reducible exact H2_) | (have H2_ := (Option.bind_some _ _).symm.trans H; with_reducible exact H2_) | with_reducible exact H | (rw [hy156]; exact H) | exact H
 have Ny156 := Aside0.mk hy156
 clear hy156
 by_cases c3 : l0.length + y156.length < 140737488355328
 ·rw [if_pos c3] at H
  have LMc3 := Aside0.mk c3
  clear c3
  obtain ⟨y159, hy159⟩ : ∃ y_ : List Int, y_ = (l0 ++ y156) := ⟨_, rfl⟩
  replace H : (some y159) = some r := by first | (rw [hy159]; with_reducible exact H) | (have H2_ := (Option.bind_some _ _).symm.trans H; rw [hy159]; with_reducible exact H2_) | (have H2_ := (Option.bind_some _ _).symm.trans H; with_reducible exact H2_) | with_reducible exact H | (rw [hy159]; exact H) | exact H
  have Ny159 := Aside0.mk hy159
  clear hy159
  obtain rfl := Option.some.inj H
  obtain ⟨Ao4, co4, eo4⟩ := Kd.R_slice HO0.out
  subst eo4
  go_enter Try.func70, Try.ntmps70
  go_wp2_with (first | ((with_reducible refine gate_callee (f := 49) rfl ?_); refine goesL_ (some 5) rfl rfl Try.func49 (by kernel_rfl) rfl #[.slice Ao4 l0.length co4] rfl (by (try simp only [List.map_toArray, List.map_cons, List.map_nil]); first | done | rfl | (simp only [List.length_drop, List.length_take]; rfl)) ?_; (with_reducible refine (frame_Sum.calls k _ _ l0 t155 _ ?side1 ?side2 A2.out).mono ?_); (case side1 => repeat (first | exact (Kd.R_reads' HO0.out).2.2 | (with_reducible refine Kd.C_alloc ?_ _) | (with_reducible refine Kd.C_drewN ?_ _) | (with_reducible refine Kd.C_drew ?_))); (case side2 => exact (Kd.R_reads' HO0.out).2.1); rintro e w' ⟨rfl, ⟨nd, rfl⟩⟩; refine ⟨_, rfl, ?_⟩) | ((with_reducible refine gate_dst (N := 18) rfl ?_); refine Kd.R_lit (Kd.int .u8) _ 5 ?hg (N := 18) ?hd (xs := ([(t155) % 256, (t155 / 256) % 256, (t155 / 65536) % 256, (t155 / 16777216) % 256] : List Int)) (inner := [.int .u8 ((t155) % 256), .int .u8 ((t155 / 256) % 256), .int .u8 ((t155 / 65536) % 256), .int .u8 ((t155 / 16777216) % 256)]) (ok := fun _ => True) (okp := fun _ => True) ?hr ?hp (fun _ hk => hk) trivial (Below.refl _ _) (Nat.le_refl _) (by simp) ?_; (case hd => rfl); (case hg => rfl); (case hr => first | (go_simp; done) | (go_simp; rfl)); (case hp => exact (Reps.one (show Kd.M (Kd.int .u8) _ _ _ ((t155) % 256) [.int .u8 ((t155) % 256)] from rfl) (Reps.one (show Kd.M (Kd.int .u8) _ _ _ ((t155 / 256) % 256) [.int .u8 ((t155 / 256) % 256)] from rfl) (Reps.one (show Kd.M (Kd.int .u8) _ _ _ ((t155 / 65536) % 256) [.int .u8 ((t155 / 65536) % 256)] from rfl) (Reps.one (show Kd.M (Kd.int .u8) _ _ _ ((t155 / 16777216) % 256) [.int .u8 ((t155 / 16777216) % 256)] from rfl) (Reps.none _ _)))))); intro v157 w5 ho6 hb hg_ hnew_; clear hg_ hnew_; (first | rw [← Ny156.out] at ho6 | (simp only [Int.reduceToNat] at ho6; rw [← Ny156.out] at ho6)); have n0_ := Aside0.mk (Kd.R_elder' (by (with_reducible repeat (first | apply Kd.R_alloc | apply Kd.R_drewN | apply Kd.R_drew)); exact HO0.out) (Kd.R_base ho6) hb); have n1_ := Aside0.mk (Kd.R_lower (Kd.R_new' (Kd.R_newM (M := fun k_ => (P0_ k_ ∨ w.heap.size ≤ k_)) ho6 (by first | exact HK.out.1 | exact (show Kept w _ (fun k_ => P0_ k_) from by repeat (first | (with_reducible first | exact HK.out | apply Kept.alloc | apply Kept.drewN | apply Kept.drew) | exact HK.out)).1) (fun k_ h_ => .inr h_)) (Kd.R_lt (by (with_reducible repeat (first | apply Kd.R_alloc | apply Kd.R_drewN | apply Kd.R_drew)); exact HO0.out))) (below_size (by repeat (first | (with_reducible first | exact HB.out | apply below_alloc | apply pw_below_drewN | apply below_drew1) | exact HB.out)))); have n2_ := Aside0.mk (Kept.below (S := (fun k_ => P0_ k_)) (by repeat (first | (with_reducible first | exact HK.out | apply Kept.alloc | apply Kept.drewN | apply Kept.drew) | exact HK.out)) hb); have n3_ := Aside0.mk (below_step (by repeat (first | (with_reducible first | exact HB.out | apply below_alloc | apply pw_below_drewN | apply below_drew1) | exact HB.out)) hb); clear HO0; clear HK; clear HB; have HO0 := n0_; have HO158 := n1_; have HK := n2_; have HB := n3_; clear n0_ n1_ n2_ n3_; clear hb ho6; obtain ⟨Ao8, co8, eo8⟩ := Kd.R_slice HO158.out; subst eo8) | ((with_reducible refine gate_builtin (b := .append) (xs := #[.tmp 6, .tmp 18]) rfl ?_); at_builtin; refine Kd.R_append_rows (Kd.int .u8) (w0 := w0) w0.heap.size rfl (.tmp 6) (.tmp 18) 22 5 (.int .u8 0) 1 rfl Try.underlying22 info5 rfl (by decide) (by omega) (.slice Ao4 l0.length co4) l0 y156 _ _ _ (fun k_ => (P0_ k_ ∨ w.heap.size ≤ k_) ∧ some k_ ≠ (.slice Ao8 y156.length co8 : Value).ownBlock) (fun _ => False) rfl rfl ?aO ?aR (fun _ _ h => h) (fun _ h => h.elim) ?aF ?aB ?aS ?aL ?_; (case aR => repeat (first | exact (Kd.R_reads' HO158.out).2.2 | (with_reducible refine Kd.C_alloc ?_ _) | (with_reducible refine Kd.C_drewN ?_ _) | (with_reducible refine Kd.C_drew ?_))); (case aB => exact (by repeat (first | (with_reducible first | exact HB.out | apply below_alloc | apply pw_below_drewN | apply below_drew1) | exact HB.out))); (case aF => exact (fun k_ hk => ⟨(.inr (Nat.le_trans (by first | exact HK.out.1 | exact (show Kept w _ (fun k_ => P0_ k_) from by repeat (first | (with_reducible first | exact HK.out | apply Kept.alloc | apply Kept.drewN | apply Kept.drew) | exact HK.out)).1) hk)), Kd.fresh' (Kd.R_lt (by (with_reducible repeat (first | apply Kd.R_alloc | apply Kd.R_drewN | apply Kd.R_drew)); exact HO158.out)) k_ hk⟩)); (case aO => exact (by (with_reducible repeat (first | apply Kd.R_alloc | apply Kd.R_drewN | apply Kd.R_drew)); exact HO0.out)); (case aS => exact (below_size (by repeat (first | (with_reducible first | exact HB.out | apply below_alloc | apply pw_below_drewN | apply below_drew1) | exact HB.out)))); (case aL => have := LMc3.out; omega); intro v160 w7 ho hb hg hat; rw [← Ny159.out] at ho; have n0_ := Aside0.mk (Kd.R_after (ok := (fun k_ => (P0_ k_ ∨ w.heap.size ≤ k_))) (by (with_reducible repeat (first | apply Kd.R_alloc | apply Kd.R_drewN | apply Kd.R_drew)); exact Kd.R_mono HO158.out (fun _ hk => by first | exact ⟨hk.1.1, hk.2⟩ | simp_all)) hg hat); have n1_ := Aside0.mk (hb); have n2_ := Aside0.mk (Kept.of_grown (S := (fun k_ => P0_ k_)) hg (by repeat (first | (with_reducible first | exact HK.out | apply Kept.alloc | apply Kept.drewN | apply Kept.drew) | exact HK.out)) (fun k_ e_ => (HO0.out.1 k_ e_).1)); have n3_ := Aside0.mk (ho); clear HO158; clear HB; clear HK; clear HO0; have HO158 := n0_; have HB := n1_; have HK := n2_; have HO161 := n3_; clear n0_ n1_ n2_ n3_; clear ho hb hg hat))
  go_ret
  exact ⟨_, by first | rfl | (simp [errW_none, errW_some] <;> rfl) | (simp [*, errW_none, errW_some] <;> rfl), by (with_reducible repeat (first | apply Kd.R_alloc | apply Kd.R_drewN | apply Kd.R_drew)); exact Kd.R_mono HO161.out (fun _ hk => hk.1), by repeat (first | (with_reducible first | exact HB.out | apply below_alloc | apply pw_below_drewN | apply below_drew1) | exact HB.out), by repeat (first | (with_reducible first | exact HK.out | apply Kept.alloc | apply Kept.drewN | apply Kept.drew) | exact HK.out)⟩
 ·rw [if_neg c3] at H
  exact absurd H (by simp)

/-! ### varint_Zig: function 85 -/
def varint_Zig.f (a0 : Int) : Option (Int) := some (wrap64 (Go.bits .xor .u64 (IntKind.u64.wrap ((IntKind.u64.wrap (a0)) * 2)) (IntKind.u64.wrap (a0 / 9223372036854775808))))
set_option maxHeartbeats 8000000 in
set_option maxRecDepth 100000 in
theorem varint_Zig.calls (a0 : Int) (r : Int) (w : World) (h : varint_Zig.f a0 = some r) :
  Calls Try.prog 85 #[.int .i64 a0] w fun e w' => e = .returned (.int .i64 r) ∧ Drawn0 w w' := by
 have H : (some (wrap64 (Go.bits .xor .u64 (IntKind.u64.wrap ((IntKind.u64.wrap (a0)) * 2)) (IntKind.u64.wrap (a0 / 9223372036854775808))))) = some r := h
 clear h
 obtain rfl := Option.some.inj H
 go_enter Try.func85, Try.ntmps85
 go_wp2
 go_ret
 exact ⟨by first | rfl | (simp; done) | (simp [*]; done), by repeat (first | exact Drawn0.refl _ | apply Drawn0.step)⟩

/-! ### varint_Signed: function 81 -/
def varint_Signed.f (k : Nat) (a0 : Int) : Option (List Int) := (varint_Zig.f a0).bind fun t162 => ((varint_Put.f k t162).bind fun t163 => (some t163))
theorem varint_Signed.mono : ∀ a0 k, LeO (varint_Signed.f k a0) (varint_Signed.f (k + 1) a0) := by
 intro a0 k
 unfold varint_Signed.f
 repeat' first
   | (with_reducible exact varint_Put.mono _ _)
   | (with_reducible exact LeO.refl _)
   | (with_reducible exact LeO.none _)
   | (with_reducible refine LeO.ite ?_ ?_)
   | (with_reducible refine LeO.bind ?_ (fun _ => ?_))
   | exact varint_Put.mono _ _
   | exact LeO.none _
   | refine LeO.ite ?_ ?_
   | refine LeO.bind ?_ (fun _ => ?_)
set_option maxHeartbeats 8000000 in
set_option maxRecDepth 100000 in
theorem varint_Signed.calls (k : Nat) (a0 : Int) (r : List Int) (w : World) (h : varint_Signed.f k a0 = some r) :
  Calls Try.prog 81 #[.int .i64 a0] w fun e w' => ∃ v0_ : Value, e = .returned (v0_) ∧ Kd.R (Kd.int .u8) 5 w' w.heap.size (fun _ => True) v0_ r ∧ Below w.heap.size w w' := by
 have HB := Aside0.mk (Below.refl w.heap.size w)
 have H : ((varint_Zig.f a0).bind fun t162 => ((varint_Put.f k t162).bind fun t163 => (some t163))) = some r := h
 clear h
 replace H := Option.bind_eq_some_iff.mp H
 obtain ⟨t162, A20, H⟩ := H
 replace H : ((varint_Put.f k t162).bind fun t163 => (some t163)) = some r := H
 have A2 := Aside0.mk A20
 clear A20
 replace H := Option.bind_eq_some_iff.mp H
 obtain ⟨t163, A30, H⟩ := H
 replace H : (some t163) = some r := H
 have A3 := Aside0.mk A30
 clear A30
 obtain rfl := Option.some.inj H
 go_enter Try.func81, Try.ntmps81
 go_wp2_with (first | ((with_reducible refine gate_callee (f := 85) rfl ?_); refine goesL_ (some 4) rfl rfl Try.func85 (by kernel_rfl) rfl #[.int .i64 a0] rfl (by (try simp only [List.map_toArray, List.map_cons, List.map_nil]); first | done | rfl | (simp only [List.length_drop, List.length_take]; rfl)) ?_; (with_reducible refine (varint_Zig.calls a0 t162 _ A2.out).mono ?_); rintro e w' ⟨rfl, ⟨nd, rfl⟩⟩; refine ⟨_, rfl, ?_⟩) | ((with_reducible refine gate_callee (f := 62) rfl ?_); refine goesL_ (some 5) rfl rfl Try.func62 (by kernel_rfl) rfl #[.int .i64 t162] rfl (by (try simp only [List.map_toArray, List.map_cons, List.map_nil]); first | done | rfl | (simp only [List.length_drop, List.length_take]; rfl)) ?_; (with_reducible refine (varint_Put.calls k t162 t163 _ A3.out).mono ?_); rintro e w4 ⟨v164, rfl, ho0, hb⟩; refine ⟨_, rfl, ?_⟩; have n0_ := Aside0.mk (Kd.R_lower ho0 (below_size (by repeat (first | (with_reducible first | exact HB.out | apply below_alloc | apply pw_below_drewN | apply below_drew1) | exact HB.out)))); have n1_ := Aside0.mk (below_step (by repeat (first | (with_reducible first | exact HB.out | apply below_alloc | apply pw_below_drewN | apply below_drew1) | exact HB.out)) hb); clear HB; have HO165 := n0_; have HB := n1_; clear n0_ n1_; (try clear hb); (try clear hb2); (try clear hk); (try clear hi); (try clear ho0)))
 go_ret
 exact ⟨_, by first | rfl | (simp [errW_none, errW_some] <;> rfl) | (simp [*, errW_none, errW_some] <;> rfl), by (with_reducible repeat (first | apply Kd.R_alloc | apply Kd.R_drewN | apply Kd.R_drew)); exact HO165.out, by repeat (first | (with_reducible first | exact HB.out | apply below_alloc | apply pw_below_drewN | apply below_drew1) | exact HB.out)⟩

/-! ### manifest_Pack: function 45 -/
def manifest_Pack.num (k : Nat) (acc : List Int) (a : Int) : Option (List Int) := (varint_Put.f k a).bind fun x => if 0 < x.length ∧ acc.length + x.length < 140737488355328 then some (acc ++ x) else none
def manifest_Pack.sgn (k : Nat) (acc : List Int) (a : Int) : Option (List Int) := (varint_Signed.f k a).bind fun x => if 0 < x.length ∧ acc.length + x.length < 140737488355328 then some (acc ++ x) else none
def manifest_Pack.l0 (k : Nat) : List Int → List S52 → Option (List Int)
  | acc, [] => some acc
  | acc, b :: l => (manifest_Pack.num k acc b.f0).bind fun x0 => (manifest_Pack.num k x0 b.f1).bind fun x1 => (manifest_Pack.sgn k x1 b.f2).bind fun x2 => (manifest_Pack.sgn k x2 b.f3).bind fun x3 => manifest_Pack.l0 k x3 l
def manifest_Pack.f (k : Nat) (l0_0 : List S52) (a0_1 a0_2 a0_3 : Int) : Option (List Int × Int) :=
  (manifest_Check.f k l0_0 a0_1 a0_2 a0_3).bind fun t =>
    if t = 0 then (manifest_Pack.num k [76, 89, 83, 77] a0_1).bind fun x0 => (manifest_Pack.num k x0 a0_2).bind fun x1 => (manifest_Pack.sgn k x1 a0_3).bind fun x2 => (manifest_Pack.num k x2 (l0_0.length : Int)).bind fun x3 =>
      (manifest_Pack.l0 k x3 l0_0).bind fun x4 => (block_Summed.f k x4).bind fun r => some (r, 0)
    else some ([], t)
theorem manifest_Pack.num_mono (acc : List Int) (a : Int) (k : Nat) : LeO (manifest_Pack.num k acc a) (manifest_Pack.num (k + 1) acc a) := LeO.bind (varint_Put.mono _ _) fun _ => LeO.refl _
theorem manifest_Pack.sgn_mono (acc : List Int) (a : Int) (k : Nat) : LeO (manifest_Pack.sgn k acc a) (manifest_Pack.sgn (k + 1) acc a) := LeO.bind (varint_Signed.mono _ _) fun _ => LeO.refl _
theorem manifest_Pack.mono_l (k : Nat) : ∀ l acc, LeO (manifest_Pack.l0 k acc l) (manifest_Pack.l0 (k + 1) acc l)
  | [], _ => LeO.refl _
  | b :: l, acc => LeO.bind (manifest_Pack.num_mono _ _ _) fun _ => LeO.bind (manifest_Pack.num_mono _ _ _) fun _ => LeO.bind (manifest_Pack.sgn_mono _ _ _) fun _ => LeO.bind (manifest_Pack.sgn_mono _ _ _) fun _ => manifest_Pack.mono_l k l _
theorem manifest_Pack.mono : ∀ a0 a1 a2 a3 k, LeO (manifest_Pack.f k a0 a1 a2 a3) (manifest_Pack.f (k + 1) a0 a1 a2 a3) := by
  intro a0 a1 a2 a3 k
  exact LeO.bind (manifest_Check.mono _ _ _ _ _) fun t => LeO.ite (LeO.bind (manifest_Pack.num_mono _ _ _) fun _ => LeO.bind (manifest_Pack.num_mono _ _ _) fun _ => LeO.bind (manifest_Pack.sgn_mono _ _ _) fun _ => LeO.bind (manifest_Pack.num_mono _ _ _) fun _ => LeO.bind (manifest_Pack.mono_l _ _ _) fun _ => LeO.bind (block_Summed.mono _ _) fun _ => LeO.refl _) (LeO.refl _)
-- WALK
section
open Go.Proofs.Ytjilnpbgclnecab
/-- A packer: its row lies in blocks of S other than its own. -/
structure manifest_Pack.WS (own : Prop) (W : World) (base : Nat) (S : Nat → Prop) (g : Nat) (l : List Int) : Prop where
  v : ∃ v, W.heap[g]? = some (.cells #[v] 99 (0, 0)) ∧ XT.RT .u8 5 W base (fun k => S k ∧ k ≠ g) v l ∧ (own → (Kd.int .u8).R 5 W base (fun k => S k ∧ k ≠ g) v l)
  b : base ≤ g
theorem manifest_Pack.WS.below {own : Prop} {W W' : World} {base g : Nat} {S : Nat → Prop} {l : List Int} (h : manifest_Pack.WS own W base S g l) (hb : Below W.heap.size W W') : manifest_Pack.WS own W' base S g l := by
  obtain ⟨⟨v, h1, h2, h4⟩, h3⟩ := h
  exact ⟨⟨v, blk_below h1 hb, XT.RT.below h2 hb, fun o => Kd.R_below (h4 o) hb⟩, h3⟩
theorem manifest_Pack.WS.fresh {own : Prop} {W : World} {base g : Nat} {S S' : Nat → Prop} {l : List Int} (h : manifest_Pack.WS own W base S g l) (hs : ∀ k, k < W.heap.size → S k → S' k) : manifest_Pack.WS own W base S' g l := by
  obtain ⟨⟨v, h1, h2, h4⟩, h3⟩ := h
  exact ⟨⟨v, h1, XT.RT.mono (XT.RT.lt h2) (fun k hk => ⟨hs k hk.2 hk.1.1, hk.1.2⟩), fun o => ⟨fun b hb => ⟨hs b (Kd.R_lt (h4 o) b hb) ((h4 o).1 b hb).1, ((h4 o).1 b hb).2⟩, (h4 o).2.imp_ (fun _ _ hp => hp)⟩⟩, h3⟩
set_option maxHeartbeats 4000000 in
set_option maxRecDepth 100000 in
theorem manifest_Pack.number (k : Nat) (S : Nat → Prop) (g : Nat) (l : List Int) (a : Int) (r : List Int) (w0 w : World) (hB : Below w0.heap.size w0 w) (hS : ∀ k, w.heap.size ≤ k → S k) (hg : S g) {own : Prop} (hW : manifest_Pack.WS own w w0.heap.size S g l) (h : manifest_Pack.num k l a = some r) :
    Calls Try.prog 68 #[.pointer (some ⟨g, 0, none⟩), .int .i64 a] w fun e w' => e = .returned (.tuple #[]) ∧ manifest_Pack.WS True w' w0.heap.size S g r ∧ Below w0.heap.size w0 w' ∧ Kept w w' S := by
  unfold manifest_Pack.num at h
  obtain ⟨x, h1, h2⟩ := Option.bind_eq_some_iff.1 h
  obtain ⟨⟨hx0, hl⟩, rfl⟩ : (0 < x.length ∧ l.length + x.length < 140737488355328) ∧ l ++ x = r := by
    by_cases hc : 0 < x.length ∧ l.length + x.length < 140737488355328
    · rw [if_pos hc] at h2; exact ⟨hc, by simpa using h2⟩
    · rw [if_neg hc] at h2; cases h2
  obtain ⟨⟨v, hb, hr, _⟩, hbg⟩ := hW
  have HB := Aside0.mk hB
  have HSF := Aside0.mk hS
  have HSG := Aside0.mk hg
  have HBK := Aside0.mk hb
  have HR := Aside0.mk hr
  have HG := Aside0.mk hbg
  have HL := Aside0.mk hl
  have HX := Aside0.mk hx0
  have H1 := Aside0.mk h1
  obtain ⟨Av, cv, rfl⟩ := XT.RT.slice hr
  have z0 : w.cell? ⟨g, 0, none⟩ = some (.slice Av l.length cv) := (blk_cell hb 0).trans rfl
  have zf0 := blk_frozen hb 0
  clear hS hg hx0 hB hb hr hbg hl h1 h2 h
  go_enter Try.func68, Try.ntmps68
  go_wp2
  have HB2 := Aside0.mk (below_drew1 HB.out)
  have HBK2 := Aside0.mk (blk_drew HBK.out)
  have HR2 := Aside0.mk (XT.RT.drew HR.out)
  have HK2 := Aside0.mk (Kept.refl w S).drew
  clear HB HBK HR
  refine start_ (n := 11) (S := fun w' => w'.cell? ⟨g, 0, none⟩ = some (.slice Av l.length cv)) (ds := [10]) #[false, false, false, false, false, false, false, false, false, false, false] (by kernel_rfl) rfl rfl ((blk_cell HBK2.out 0).trans rfl) (fun hHeld => ?_)
  clear z0 zf0
  generalize w.drew = w2 at HB2 HBK2 HR2 HK2 hHeld ⊢
  refine pure_ (i := 0) (N := (some 4)) (v := ?_) (a' := ?_) #[true, false, false, false, false, false, false, false, false, false, false] rfl rfl (by kernel_rfl) (fun _ _ _ h => h) (Or.inl ⟨by rfl, ?_⟩) ?_ ?_
  rotate_left
  · intro w'
    go_simp
    with_reducible rfl
  rotate_left
  · simp only [Act.put, List.setIfInBounds_toArray, List.set_cons_zero, List.set_cons_succ, i64_w, i32_w]
    rfl
  refine pure_ (i := 1) (N := (some 5)) (v := ?_) (a' := ?_) #[true, true, false, false, false, false, false, false, false, false, false] rfl rfl (by kernel_rfl) (fun _ _ _ h => h) (Or.inl ⟨by rfl, ?_⟩) ?_ ?_
  rotate_left
  · intro w'
    go_simp
    with_reducible rfl
  rotate_left
  · simp only [Act.put, List.setIfInBounds_toArray, List.set_cons_zero, List.set_cons_succ, i64_w, i32_w]
    rfl
  refine pure_ (i := 2) (N := (some 6)) (v := ?_) (a' := ?_) #[true, true, true, false, false, false, false, false, false, false, false] rfl rfl (by kernel_rfl) (fun _ _ _ h => h) (Or.inl ⟨by rfl, ?_⟩) ?_ ?_
  rotate_left
  · intro w'
    go_simp
    with_reducible rfl
  rotate_left
  · simp only [Act.put, List.setIfInBounds_toArray, List.set_cons_zero, List.set_cons_succ, i64_w, i32_w]
    rfl
  refine pure_ (i := 3) (N := (some 7)) (v := ?_) (a' := ?_) #[true, true, true, true, false, false, false, false, false, false, false] rfl rfl (by kernel_rfl) (fun _ _ _ h => h) (Or.inl ⟨by rfl, ?_⟩) ?_ ?_
  rotate_left
  · intro w'
    go_simp
    with_reducible rfl
  rotate_left
  · simp only [Act.put, List.setIfInBounds_toArray, List.set_cons_zero, List.set_cons_succ, i64_w, i32_w]
    rfl
  refine take_ (i := 4) (N := (some 8)) (v := ?_) (a' := ?_) #[true, true, true, true, true, false, false, false, false, false, false] rfl rfl (by kernel_rfl) (fun _ _ _ h => h) (Or.inl ⟨by rfl, ?_⟩) hHeld ?_ ?_
  rotate_left
  · rintro w' s0
    go_simp
    with_reducible rfl
  rotate_left
  · simp only [Act.put, List.setIfInBounds_toArray, List.set_cons_zero, List.set_cons_succ, i64_w, i32_w]
    rfl
  refine pure_ (i := 5) (N := (some 9)) (v := ?_) (a' := ?_) #[true, true, true, true, true, true, false, false, false, false, false] rfl rfl (by kernel_rfl) (fun _ _ _ h => h) (Or.inl ⟨by rfl, ?_⟩) ?_ ?_
  rotate_left
  · intro w'
    go_simp
    with_reducible rfl
  rotate_left
  · simp only [Act.put, List.setIfInBounds_toArray, List.set_cons_zero, List.set_cons_succ, i64_w, i32_w]
    rfl
  refine one_ (i := 6) (N := (some 10)) #[true, true, true, true, true, true, true, false, false, false, false] rfl rfl (by kernel_rfl) (by decide) (fun K hK => ?_)
  refine goes_ Try.func62 (by kernel_rfl) rfl #[.int .i64 a] (by rfl) rfl rfl (by first | (simp; done) | ((try simp only [List.map_toArray, List.map_cons, List.map_nil]); first | done | rfl)) ?_
  (with_reducible refine (varint_Put.calls k a x _ H1.out).mono ?_)
  rintro e w3 ⟨v3, rfl, ho3, hb3⟩
  refine ⟨_, rfl, ?_⟩
  have HR3 := Aside0.mk (XT.RT.below HR2.out hb3)
  have HBK3 := Aside0.mk (blk_below HBK2.out hb3)
  have HB3 := Aside0.mk (below_step HB2.out hb3)
  have HK3 := Aside0.mk (HK2.out.below hb3)
  have HSF3 := Aside0.mk (fun (k : Nat) (hk : w3.heap.size ≤ k) => HSF.out k (Nat.le_trans HK3.out.1 hk))
  clear HB2 HBK2 HR2 HK2
  obtain ⟨A3, c3, e3, hc3, hr3⟩ := Kd.R_reads ho3
  subst e3
  have hfar3 : ∀ k_, k_ ∉ ([] : List Nat) → True := fun _ _ => trivial
  refine hK.out _ _ ((blk_cell HBK3.out 0).trans rfl) (fun hHeld => ?_)
  clear hK K
  refine norm_ (a' := ?_) ?_ ?_
  rotate_left
  · show Act.put _ (some 10) _ = _
    simp only [Act.put, List.setIfInBounds_toArray, List.set_cons_zero, List.set_cons_succ, i64_w, i32_w]
    rfl
  refine one_ (i := 7) (N := (some 11)) #[true, true, true, true, true, true, true, true, false, false, false] rfl rfl (by kernel_rfl) (by decide) (fun K hK => ?_)
  refine XT.RT_append_step .u8 (w0 := w0) w0.heap.size (by rfl) (.tmp 8) (.tmp 10) 22 5 (.int .u8 0) 1 rfl Try.underlying22 info5 rfl (by omega) (.slice Av l.length cv) l x _ _ _ (fun k => S k ∧ k ≠ g) rfl rfl HR3.out hr3 HX.out (fun k hk => ⟨HSF3.out k hk, by have := blk_lt HBK3.out; omega⟩) HB3.out HB3.out.size (by have := HL.out; omega) ?_
  intro v4 w4 ho4 hb4 hg4 hat4
  have hne : some g ≠ (Value.slice Av l.length cv).ownBlock := fun he => (XT.RT.own HR3.out g he.symm).2 rfl
  have HK4 := Aside0.mk (Kept.of_grown hg4 HK3.out (fun k hk => .inl (XT.RT.own HR3.out k hk).1))
  have hbk4 := blk_grown HBK3.out hg4 hne
  obtain ⟨A4, c4, e4⟩ := Kd.R_slice ho4
  subst e4
  clear hHeld
  refine hK.out _ _ ((blk_cell hbk4 0).trans rfl) (fun hHeld => ?_)
  clear hK K
  refine norm_ (a' := ?_) ?_ ?_
  rotate_left
  · show Act.put _ (some 11) _ = _
    simp only [Act.put, List.setIfInBounds_toArray, List.set_cons_zero, List.set_cons_succ, i64_w, i32_w]
    rfl
  refine pure_ (i := 8) (N := (some 12)) (v := ?_) (a' := ?_) #[true, true, true, true, true, true, true, true, true, false, false] rfl rfl (by kernel_rfl) (fun _ _ _ h => h) (Or.inl ⟨by rfl, ?_⟩) ?_ ?_
  rotate_left
  · intro w'
    go_simp
    with_reducible rfl
  rotate_left
  · simp only [Act.put, List.setIfInBounds_toArray, List.set_cons_zero, List.set_cons_succ, i64_w, i32_w]
    rfl
  refine pure_ (i := 9) (N := (some 13)) (v := ?_) (a' := ?_) #[true, true, true, true, true, true, true, true, true, true, false] rfl rfl (by kernel_rfl) (fun _ _ _ h => h) (Or.inl ⟨by rfl, ?_⟩) ?_ ?_
  rotate_left
  · intro w'
    go_simp
    with_reducible rfl
  rotate_left
  · simp only [Act.put, List.setIfInBounds_toArray, List.set_cons_zero, List.set_cons_succ, i64_w, i32_w]
    rfl
  refine last_ (i := 10) (N := none) #[true, true, true, true, true, true, true, true, true, true, true] rfl rfl (by kernel_rfl) (by decide) (fun K hK => ?_)
  have hzf := blk_frozen hbk4 0
  have hz4 : w4.cell? ⟨g, 0, none⟩ = some (.slice Av l.length cv) := (blk_cell hbk4 0).trans rfl
  refine skip_ (w1 := ?_) (by rfl) rfl ?_ ?_
  rotate_left
  · go_simp
    rfl
  refine hK.out _ _ ?_
  clear hK K
  refine done_ (by kernel_rfl) ?_
  go_wp2
  go_end0
  rw [List.length_append] at ho4
  exact ⟨rfl, ⟨⟨_, blk_put hbk4 0 _ rfl, .inl (Kd.R_far (p := ⟨g, 0, none⟩) ho4 (fun _ hk => hk.2) _), fun _ => Kd.R_far (p := ⟨g, 0, none⟩) ho4 (fun _ hk => hk.2) _⟩, HG.out⟩, hb4.setCell (p := ⟨g, 0, none⟩) HG.out _, HK4.out.setCell (p := ⟨g, 0, none⟩) (.inl HSG.out) _⟩
set_option maxHeartbeats 4000000 in
set_option maxRecDepth 100000 in
theorem manifest_Pack.signed (k : Nat) (S : Nat → Prop) (g : Nat) (l : List Int) (a : Int) (r : List Int) (w0 w : World) (hB : Below w0.heap.size w0 w) (hS : ∀ k, w.heap.size ≤ k → S k) (hg : S g) {own : Prop} (hW : manifest_Pack.WS own w w0.heap.size S g l) (h : manifest_Pack.sgn k l a = some r) :
    Calls Try.prog 69 #[.pointer (some ⟨g, 0, none⟩), .int .i64 a] w fun e w' => e = .returned (.tuple #[]) ∧ manifest_Pack.WS True w' w0.heap.size S g r ∧ Below w0.heap.size w0 w' ∧ Kept w w' S := by
  unfold manifest_Pack.sgn at h
  obtain ⟨x, h1, h2⟩ := Option.bind_eq_some_iff.1 h
  obtain ⟨⟨hx0, hl⟩, rfl⟩ : (0 < x.length ∧ l.length + x.length < 140737488355328) ∧ l ++ x = r := by
    by_cases hc : 0 < x.length ∧ l.length + x.length < 140737488355328
    · rw [if_pos hc] at h2; exact ⟨hc, by simpa using h2⟩
    · rw [if_neg hc] at h2; cases h2
  obtain ⟨⟨v, hb, hr, _⟩, hbg⟩ := hW
  have HB := Aside0.mk hB
  have HSF := Aside0.mk hS
  have HSG := Aside0.mk hg
  have HBK := Aside0.mk hb
  have HR := Aside0.mk hr
  have HG := Aside0.mk hbg
  have HL := Aside0.mk hl
  have HX := Aside0.mk hx0
  have H1 := Aside0.mk h1
  obtain ⟨Av, cv, rfl⟩ := XT.RT.slice hr
  have z0 : w.cell? ⟨g, 0, none⟩ = some (.slice Av l.length cv) := (blk_cell hb 0).trans rfl
  have zf0 := blk_frozen hb 0
  clear hS hg hx0 hB hb hr hbg hl h1 h2 h
  go_enter Try.func69, Try.ntmps69
  go_wp2
  have HB2 := Aside0.mk (below_drew1 HB.out)
  have HBK2 := Aside0.mk (blk_drew HBK.out)
  have HR2 := Aside0.mk (XT.RT.drew HR.out)
  have HK2 := Aside0.mk (Kept.refl w S).drew
  clear HB HBK HR
  refine start_ (n := 11) (S := fun w' => w'.cell? ⟨g, 0, none⟩ = some (.slice Av l.length cv)) (ds := [10]) #[false, false, false, false, false, false, false, false, false, false, false] (by kernel_rfl) rfl rfl ((blk_cell HBK2.out 0).trans rfl) (fun hHeld => ?_)
  clear z0 zf0
  generalize w.drew = w2 at HB2 HBK2 HR2 HK2 hHeld ⊢
  refine pure_ (i := 0) (N := (some 4)) (v := ?_) (a' := ?_) #[true, false, false, false, false, false, false, false, false, false, false] rfl rfl (by kernel_rfl) (fun _ _ _ h => h) (Or.inl ⟨by rfl, ?_⟩) ?_ ?_
  rotate_left
  · intro w'
    go_simp
    with_reducible rfl
  rotate_left
  · simp only [Act.put, List.setIfInBounds_toArray, List.set_cons_zero, List.set_cons_succ, i64_w, i32_w]
    rfl
  refine pure_ (i := 1) (N := (some 5)) (v := ?_) (a' := ?_) #[true, true, false, false, false, false, false, false, false, false, false] rfl rfl (by kernel_rfl) (fun _ _ _ h => h) (Or.inl ⟨by rfl, ?_⟩) ?_ ?_
  rotate_left
  · intro w'
    go_simp
    with_reducible rfl
  rotate_left
  · simp only [Act.put, List.setIfInBounds_toArray, List.set_cons_zero, List.set_cons_succ, i64_w, i32_w]
    rfl
  refine pure_ (i := 2) (N := (some 6)) (v := ?_) (a' := ?_) #[true, true, true, false, false, false, false, false, false, false, false] rfl rfl (by kernel_rfl) (fun _ _ _ h => h) (Or.inl ⟨by rfl, ?_⟩) ?_ ?_
  rotate_left
  · intro w'
    go_simp
    with_reducible rfl
  rotate_left
  · simp only [Act.put, List.setIfInBounds_toArray, List.set_cons_zero, List.set_cons_succ, i64_w, i32_w]
    rfl
  refine pure_ (i := 3) (N := (some 7)) (v := ?_) (a' := ?_) #[true, true, true, true, false, false, false, false, false, false, false] rfl rfl (by kernel_rfl) (fun _ _ _ h => h) (Or.inl ⟨by rfl, ?_⟩) ?_ ?_
  rotate_left
  · intro w'
    go_simp
    with_reducible rfl
  rotate_left
  · simp only [Act.put, List.setIfInBounds_toArray, List.set_cons_zero, List.set_cons_succ, i64_w, i32_w]
    rfl
  refine take_ (i := 4) (N := (some 8)) (v := ?_) (a' := ?_) #[true, true, true, true, true, false, false, false, false, false, false] rfl rfl (by kernel_rfl) (fun _ _ _ h => h) (Or.inl ⟨by rfl, ?_⟩) hHeld ?_ ?_
  rotate_left
  · rintro w' s0
    go_simp
    with_reducible rfl
  rotate_left
  · simp only [Act.put, List.setIfInBounds_toArray, List.set_cons_zero, List.set_cons_succ, i64_w, i32_w]
    rfl
  refine pure_ (i := 5) (N := (some 9)) (v := ?_) (a' := ?_) #[true, true, true, true, true, true, false, false, false, false, false] rfl rfl (by kernel_rfl) (fun _ _ _ h => h) (Or.inl ⟨by rfl, ?_⟩) ?_ ?_
  rotate_left
  · intro w'
    go_simp
    with_reducible rfl
  rotate_left
  · simp only [Act.put, List.setIfInBounds_toArray, List.set_cons_zero, List.set_cons_succ, i64_w, i32_w]
    rfl
  refine one_ (i := 6) (N := (some 10)) #[true, true, true, true, true, true, true, false, false, false, false] rfl rfl (by kernel_rfl) (by decide) (fun K hK => ?_)
  refine goes_ Try.func81 (by kernel_rfl) rfl #[.int .i64 a] (by rfl) rfl rfl (by first | (simp; done) | ((try simp only [List.map_toArray, List.map_cons, List.map_nil]); first | done | rfl)) ?_
  (with_reducible refine (varint_Signed.calls k a x _ H1.out).mono ?_)
  rintro e w3 ⟨v3, rfl, ho3, hb3⟩
  refine ⟨_, rfl, ?_⟩
  have HR3 := Aside0.mk (XT.RT.below HR2.out hb3)
  have HBK3 := Aside0.mk (blk_below HBK2.out hb3)
  have HB3 := Aside0.mk (below_step HB2.out hb3)
  have HK3 := Aside0.mk (HK2.out.below hb3)
  have HSF3 := Aside0.mk (fun (k : Nat) (hk : w3.heap.size ≤ k) => HSF.out k (Nat.le_trans HK3.out.1 hk))
  clear HB2 HBK2 HR2 HK2
  obtain ⟨A3, c3, e3, hc3, hr3⟩ := Kd.R_reads ho3
  subst e3
  have hfar3 : ∀ k_, k_ ∉ ([] : List Nat) → True := fun _ _ => trivial
  refine hK.out _ _ ((blk_cell HBK3.out 0).trans rfl) (fun hHeld => ?_)
  clear hK K
  refine norm_ (a' := ?_) ?_ ?_
  rotate_left
  · show Act.put _ (some 10) _ = _
    simp only [Act.put, List.setIfInBounds_toArray, List.set_cons_zero, List.set_cons_succ, i64_w, i32_w]
    rfl
  refine one_ (i := 7) (N := (some 11)) #[true, true, true, true, true, true, true, true, false, false, false] rfl rfl (by kernel_rfl) (by decide) (fun K hK => ?_)
  refine XT.RT_append_step .u8 (w0 := w0) w0.heap.size (by rfl) (.tmp 8) (.tmp 10) 22 5 (.int .u8 0) 1 rfl Try.underlying22 info5 rfl (by omega) (.slice Av l.length cv) l x _ _ _ (fun k => S k ∧ k ≠ g) rfl rfl HR3.out hr3 HX.out (fun k hk => ⟨HSF3.out k hk, by have := blk_lt HBK3.out; omega⟩) HB3.out HB3.out.size (by have := HL.out; omega) ?_
  intro v4 w4 ho4 hb4 hg4 hat4
  have hne : some g ≠ (Value.slice Av l.length cv).ownBlock := fun he => (XT.RT.own HR3.out g he.symm).2 rfl
  have HK4 := Aside0.mk (Kept.of_grown hg4 HK3.out (fun k hk => .inl (XT.RT.own HR3.out k hk).1))
  have hbk4 := blk_grown HBK3.out hg4 hne
  obtain ⟨A4, c4, e4⟩ := Kd.R_slice ho4
  subst e4
  clear hHeld
  refine hK.out _ _ ((blk_cell hbk4 0).trans rfl) (fun hHeld => ?_)
  clear hK K
  refine norm_ (a' := ?_) ?_ ?_
  rotate_left
  · show Act.put _ (some 11) _ = _
    simp only [Act.put, List.setIfInBounds_toArray, List.set_cons_zero, List.set_cons_succ, i64_w, i32_w]
    rfl
  refine pure_ (i := 8) (N := (some 12)) (v := ?_) (a' := ?_) #[true, true, true, true, true, true, true, true, true, false, false] rfl rfl (by kernel_rfl) (fun _ _ _ h => h) (Or.inl ⟨by rfl, ?_⟩) ?_ ?_
  rotate_left
  · intro w'
    go_simp
    with_reducible rfl
  rotate_left
  · simp only [Act.put, List.setIfInBounds_toArray, List.set_cons_zero, List.set_cons_succ, i64_w, i32_w]
    rfl
  refine pure_ (i := 9) (N := (some 13)) (v := ?_) (a' := ?_) #[true, true, true, true, true, true, true, true, true, true, false] rfl rfl (by kernel_rfl) (fun _ _ _ h => h) (Or.inl ⟨by rfl, ?_⟩) ?_ ?_
  rotate_left
  · intro w'
    go_simp
    with_reducible rfl
  rotate_left
  · simp only [Act.put, List.setIfInBounds_toArray, List.set_cons_zero, List.set_cons_succ, i64_w, i32_w]
    rfl
  refine last_ (i := 10) (N := none) #[true, true, true, true, true, true, true, true, true, true, true] rfl rfl (by kernel_rfl) (by decide) (fun K hK => ?_)
  have hzf := blk_frozen hbk4 0
  have hz4 : w4.cell? ⟨g, 0, none⟩ = some (.slice Av l.length cv) := (blk_cell hbk4 0).trans rfl
  refine skip_ (w1 := ?_) (by rfl) rfl ?_ ?_
  rotate_left
  · go_simp
    rfl
  refine hK.out _ _ ?_
  clear hK K
  refine done_ (by kernel_rfl) ?_
  go_wp2
  go_end0
  rw [List.length_append] at ho4
  exact ⟨rfl, ⟨⟨_, blk_put hbk4 0 _ rfl, .inl (Kd.R_far (p := ⟨g, 0, none⟩) ho4 (fun _ hk => hk.2) _), fun _ => Kd.R_far (p := ⟨g, 0, none⟩) ho4 (fun _ hk => hk.2) _⟩, HG.out⟩, hb4.setCell (p := ⟨g, 0, none⟩) HG.out _, HK4.out.setCell (p := ⟨g, 0, none⟩) (.inl HSG.out) _⟩
set_option maxHeartbeats 8000000 in
set_option maxRecDepth 100000 in
theorem manifest_Pack.calls (k : Nat) (A0_0 : Option Addr) (c0_0 : Nat) (l0_0 : List (S52)) (a0_1 : Int) (a0_2 : Int) (a0_3 : Int) (r1 : List Int) (r2 : Int) (w : World) (hr0_0 : Kd.C k52 w A0_0 l0_0.length l0_0) (hc0_0 : l0_0.length ≤ c0_0) (h : manifest_Pack.f k l0_0 a0_1 a0_2 a0_3 = some (r1, r2)) :
    Calls Try.prog 45 #[.agg #[.slice A0_0 l0_0.length c0_0, .int .i64 a0_1, .int .i64 a0_2, .int .i64 a0_3]] w fun e w' => ∃ v0_ : Value, e = .returned (.tuple #[v0_, .int .i64 r2]) ∧ Kd.R (Kd.int .u8) 5 w' w.heap.size (fun _ => True) v0_ r1 ∧ Below w.heap.size w w' := by
  have hu50 := Try.underlying50
  have hu52 := Try.underlying52
  have hmf : ∀ (fn : Fn) (first cap : Array Value) (w : World), (Instr.makeFunc fn first cap).run Try.prog w = .ok (.func fn first cap) w := fun _ _ _ _ => rfl
  have HR0 := Aside0.mk hr0_0
  have HC0 := Aside0.mk hc0_0
  clear hr0_0 hc0_0
  unfold manifest_Pack.f at h
  obtain ⟨t, h1, h⟩ := Option.bind_eq_some_iff.mp h
  have A1 := Aside0.mk h1
  have H := Aside0.mk h
  clear h1 h
  have hcv := fun (w : World) (C : Array Value) (n c : Nat) => Go.Lib.run_convert_bytes_const (P := Try.prog) w 22 5 C n c Try.underlying22 Try.underlying5
  go_enter Try.func45, Try.ntmps45
  by_cases ht : t = 0
  case neg =>
    have htb : (t != 0) = true := bne_iff_ne.mpr ht
    have H2 := Aside0.mk (show some (([] : List Int), t) = some (r1, r2) from (if_neg ht).symm.trans H.out)
    clear H ht
    go_wp2_with (first
      | ((with_reducible refine gate_dst (N := 1) rfl ?_); refine box_event ?hg (N := 1) ?hd (cs := #[.slice A0_0 l0_0.length c0_0, .int .i64 a0_1, .int .i64 a0_2, .int .i64 a0_3]) (t := 50) ?hr ?_; (case hd => rfl); (case hg => rfl); (case hr => first | (go_simp; done) | (go_simp; rfl)); intro g1 hg1 w1 bk1 hb1; have BK0 := Aside0.mk bk1; have HB1 := Aside0.mk hb1; clear bk1 hb1 hg1; have HB := Aside0.mk (Below.refl w1.heap.size w1); have z0 : w1.cell? ⟨g1, 0, none⟩ = some (.slice A0_0 l0_0.length c0_0) := (blk_cell (blk_below BK0.out HB.out) 0).trans rfl; have z1 : w1.cell? ⟨g1, 1, none⟩ = some (.int .i64 a0_1) := (blk_cell (blk_below BK0.out HB.out) 1).trans rfl; have z2 : w1.cell? ⟨g1, 2, none⟩ = some (.int .i64 a0_2) := (blk_cell (blk_below BK0.out HB.out) 2).trans rfl; have z3 : w1.cell? ⟨g1, 3, none⟩ = some (.int .i64 a0_3) := (blk_cell (blk_below BK0.out HB.out) 3).trans rfl)
      | (go_at_call 44; (with_reducible refine (manifest_Check.calls k _ _ l0_0 a0_1 a0_2 a0_3 _ _ ?side1 ?side2 A1.out).mono ?_); (case side1 => exact Kd.C_below HR0.out HB1.out); (case side2 => exact HC0.out); rintro e w3 ⟨rfl, hb3⟩; have n2_ := Aside0.mk (below_step HB.out hb3); clear HB z0 z1 z2 z3; have HB := n2_; clear n2_ hb3))
    have h2 := H2.out
    simp only [Option.some.injEq, Prod.mk.injEq] at h2
    obtain ⟨rfl, rfl⟩ := h2
    refine bodyPost_ret (results_list (rs := [.tmp 2, .tmp 3]) (vs := [.slice none 0 0, .int .i64 t]) rfl (by simp) (by repeat constructor)) rfl ?_
    exact ⟨_, rfl, Kd.R_nil _ _ _ _ _, below_step HB1.out HB.out⟩
  case pos =>
  have htb : (t != 0) = false := bne_eq_false_iff_eq.mpr ht
  subst ht
  have h := H.out
  clear H
  rw [if_pos rfl] at h
  obtain ⟨x0, hx0, h⟩ := Option.bind_eq_some_iff.mp h
  have X0 := Aside0.mk hx0
  clear hx0
  obtain ⟨x1, hx1, h⟩ := Option.bind_eq_some_iff.mp h
  have X1 := Aside0.mk hx1
  clear hx1
  obtain ⟨x2, hx2, h⟩ := Option.bind_eq_some_iff.mp h
  have X2 := Aside0.mk hx2
  clear hx2
  obtain ⟨x3, hx3, h⟩ := Option.bind_eq_some_iff.mp h
  have X3 := Aside0.mk hx3
  clear hx3
  obtain ⟨x4, hx4, h⟩ := Option.bind_eq_some_iff.mp h
  have X4 := Aside0.mk hx4
  clear hx4
  obtain ⟨x5, hx5, h⟩ := Option.bind_eq_some_iff.mp h
  have X5 := Aside0.mk hx5
  clear hx5
  simp only [Option.some.injEq, Prod.mk.injEq] at h
  obtain ⟨rfl, rfl⟩ := h
  go_wp2_with (first
    | ((with_reducible refine gate_dst (N := 1) rfl ?_); refine box_event ?hg (N := 1) ?hd (cs := #[.slice A0_0 l0_0.length c0_0, .int .i64 a0_1, .int .i64 a0_2, .int .i64 a0_3]) (t := 50) ?hr ?_; (case hd => rfl); (case hg => rfl); (case hr => first | (go_simp; done) | (go_simp; rfl)); intro g1 hg1 w1 bk1 hb1; have BK0 := Aside0.mk bk1; have HB1 := Aside0.mk hb1; clear bk1 hb1 hg1; have HB := Aside0.mk (Below.refl w1.heap.size w1); have z0 : w1.cell? ⟨g1, 0, none⟩ = some (.slice A0_0 l0_0.length c0_0) := (blk_cell (blk_below BK0.out HB.out) 0).trans rfl; have z1 : w1.cell? ⟨g1, 1, none⟩ = some (.int .i64 a0_1) := (blk_cell (blk_below BK0.out HB.out) 1).trans rfl; have z2 : w1.cell? ⟨g1, 2, none⟩ = some (.int .i64 a0_2) := (blk_cell (blk_below BK0.out HB.out) 2).trans rfl; have z3 : w1.cell? ⟨g1, 3, none⟩ = some (.int .i64 a0_3) := (blk_cell (blk_below BK0.out HB.out) 3).trans rfl)
    | (go_at_call 44; (with_reducible refine (manifest_Check.calls k _ _ l0_0 a0_1 a0_2 a0_3 _ _ ?side1 ?side2 A1.out).mono ?_); (case side1 => exact Kd.C_below HR0.out HB1.out); (case side2 => exact HC0.out); rintro e w3 ⟨rfl, hb3⟩; have n2_ := Aside0.mk (below_step HB.out hb3); clear HB z0 z1 z2 z3; have HB := n2_; clear n2_ hb3)
    | ((with_reducible refine gate_dst (N := 18) rfl ?_); refine box_event ?hg (N := 18) ?hd (cs := #[.slice (some ⟨w3.heap.size, 0, none⟩) 4 4]) (t := 99) ?hr ?_; (case hd => rfl); (case hg => rfl); (case hr => first | (go_simp; done) | (go_simp; rfl)); intro gp hgp w18 bk18 hb18; have hb17 := below_step (below_alloc (Below.refl w3.heap.size w3) _) hb18; have HS := Aside0.mk (manifest_Pack.WS.mk (own := False) (W := w18) (base := w1.heap.size) (S := fun _ => True) (l := [76, 89, 83, 77]) ⟨_, bk18, .inr ⟨w3.heap.size, (4, 5), rfl, below_size HB.out, ⟨trivial, (by rw [hgp, World.size_alloc]; omega)⟩, blk_below (blk_new w3 _) hb18⟩, fun o => o.elim⟩ (show w1.heap.size ≤ gp by rw [hgp, World.size_alloc]; have := below_size HB.out; omega)); have n2_ := Aside0.mk (below_step HB.out hb17); clear HB bk18 hb18 hb17 hgp; have HB := n2_; clear n2_; have z0 : w18.cell? ⟨g1, 0, none⟩ = some (.slice A0_0 l0_0.length c0_0) := (blk_cell (blk_below BK0.out HB.out) 0).trans rfl; have z1 : w18.cell? ⟨g1, 1, none⟩ = some (.int .i64 a0_1) := (blk_cell (blk_below BK0.out HB.out) 1).trans rfl; have z2 : w18.cell? ⟨g1, 2, none⟩ = some (.int .i64 a0_2) := (blk_cell (blk_below BK0.out HB.out) 2).trans rfl; have z3 : w18.cell? ⟨g1, 3, none⟩ = some (.int .i64 a0_3) := (blk_cell (blk_below BK0.out HB.out) 3).trans rfl)
    | (go_at_call 68; (with_reducible refine (manifest_Pack.number k (fun _ => True) gp _ _ _ w1 _ HB.out (fun _ _ => trivial) trivial HS.out X0.out).mono ?_); rintro e wq ⟨rfl, hs_, hb_, hk_⟩; clear HS HB z0 z1 z2 z3; have HS := Aside0.mk hs_; have HB := Aside0.mk hb_; clear hs_ hb_ hk_; have z0 : wq.cell? ⟨g1, 0, none⟩ = some (.slice A0_0 l0_0.length c0_0) := (blk_cell (blk_below BK0.out HB.out) 0).trans rfl; have z1 : wq.cell? ⟨g1, 1, none⟩ = some (.int .i64 a0_1) := (blk_cell (blk_below BK0.out HB.out) 1).trans rfl; have z2 : wq.cell? ⟨g1, 2, none⟩ = some (.int .i64 a0_2) := (blk_cell (blk_below BK0.out HB.out) 2).trans rfl; have z3 : wq.cell? ⟨g1, 3, none⟩ = some (.int .i64 a0_3) := (blk_cell (blk_below BK0.out HB.out) 3).trans rfl)
    | (go_at_call 68; (with_reducible refine (manifest_Pack.number k (fun _ => True) gp _ _ _ w1 _ HB.out (fun _ _ => trivial) trivial HS.out X1.out).mono ?_); rintro e wq ⟨rfl, hs_, hb_, hk_⟩; clear HS HB z0 z1 z2 z3; have HS := Aside0.mk hs_; have HB := Aside0.mk hb_; clear hs_ hb_ hk_; have z0 : wq.cell? ⟨g1, 0, none⟩ = some (.slice A0_0 l0_0.length c0_0) := (blk_cell (blk_below BK0.out HB.out) 0).trans rfl; have z1 : wq.cell? ⟨g1, 1, none⟩ = some (.int .i64 a0_1) := (blk_cell (blk_below BK0.out HB.out) 1).trans rfl; have z2 : wq.cell? ⟨g1, 2, none⟩ = some (.int .i64 a0_2) := (blk_cell (blk_below BK0.out HB.out) 2).trans rfl; have z3 : wq.cell? ⟨g1, 3, none⟩ = some (.int .i64 a0_3) := (blk_cell (blk_below BK0.out HB.out) 3).trans rfl)
    | (go_at_call 69; (with_reducible refine (manifest_Pack.signed k (fun _ => True) gp _ _ _ w1 _ HB.out (fun _ _ => trivial) trivial HS.out X2.out).mono ?_); rintro e wq ⟨rfl, hs_, hb_, hk_⟩; clear HS HB z0 z1 z2 z3; have HS := Aside0.mk hs_; have HB := Aside0.mk hb_; clear hs_ hb_ hk_; have z0 : wq.cell? ⟨g1, 0, none⟩ = some (.slice A0_0 l0_0.length c0_0) := (blk_cell (blk_below BK0.out HB.out) 0).trans rfl; have z1 : wq.cell? ⟨g1, 1, none⟩ = some (.int .i64 a0_1) := (blk_cell (blk_below BK0.out HB.out) 1).trans rfl; have z2 : wq.cell? ⟨g1, 2, none⟩ = some (.int .i64 a0_2) := (blk_cell (blk_below BK0.out HB.out) 2).trans rfl; have z3 : wq.cell? ⟨g1, 3, none⟩ = some (.int .i64 a0_3) := (blk_cell (blk_below BK0.out HB.out) 3).trans rfl)
    | (go_at_call 68; (with_reducible refine (manifest_Pack.number k (fun _ => True) gp _ _ _ w1 _ HB.out (fun _ _ => trivial) trivial HS.out X3.out).mono ?_); rintro e wq ⟨rfl, hs_, hb_, hk_⟩; clear HS HB z0 z1 z2 z3; have HS := Aside0.mk hs_; have HB := Aside0.mk hb_; clear hs_ hb_ hk_; have z0 : wq.cell? ⟨g1, 0, none⟩ = some (.slice A0_0 l0_0.length c0_0) := (blk_cell (blk_below BK0.out HB.out) 0).trans rfl; have z1 : wq.cell? ⟨g1, 1, none⟩ = some (.int .i64 a0_1) := (blk_cell (blk_below BK0.out HB.out) 1).trans rfl; have z2 : wq.cell? ⟨g1, 2, none⟩ = some (.int .i64 a0_2) := (blk_cell (blk_below BK0.out HB.out) 2).trans rfl; have z3 : wq.cell? ⟨g1, 3, none⟩ = some (.int .i64 a0_3) := (blk_cell (blk_below BK0.out HB.out) 3).trans rfl))
  clear z0 z1 z2 z3
  obtain ⟨N, hN⟩ : ∃ N, N = l0_0.length := ⟨_, rfl⟩
  go_loopg [43] N (fun kq v43 w' => ∃ (i : Nat) (acc : List Int), kq + i = l0_0.length ∧ v43 = .int .i64 i ∧ Aside0 (manifest_Pack.l0 k acc (l0_0.drop i) = some x4) ∧ Aside0 (manifest_Pack.WS True w' w1.heap.size (fun _ => True) gp acc) ∧ Aside0 (Below w1.heap.size w1 w'))
  case atStart => exact ⟨0, x3, by omega, rfl, X4, HS, HB⟩
  case round =>
    clear HS HB
    obtain ⟨i, acc, hk, rfl, HX, HS, HB⟩ := hrel
    clear hN
    by_cases hi : i < l0_0.length
    · obtain ⟨k1, rfl⟩ : ∃ k1, gk = k1 + 1 := ⟨gk - 1, by omega⟩
      have hib : decide ((i : Int) < (l0_0.length : Int)) = true := decide_eq_true (by omega)
      obtain ⟨b, hb⟩ : ∃ b, b = l0_0[i] := ⟨_, rfl⟩
      have hX := HX.out
      rw [List.drop_eq_getElem_cons hi, ← hb] at hX
      unfold manifest_Pack.l0 at hX
      obtain ⟨u0, hu0, hX⟩ := Option.bind_eq_some_iff.mp hX
      have U0 := Aside0.mk hu0
      clear hu0
      obtain ⟨u1, hu1, hX⟩ := Option.bind_eq_some_iff.mp hX
      have U1 := Aside0.mk hu1
      clear hu1
      obtain ⟨u2, hu2, hX⟩ := Option.bind_eq_some_iff.mp hX
      have U2 := Aside0.mk hu2
      clear hu2
      obtain ⟨u3, hu3, hX⟩ := Option.bind_eq_some_iff.mp hX
      have U3 := Aside0.mk hu3
      clear hu3
      have HX4 := Aside0.mk hX
      clear hX HX
      obtain ⟨ad, e, hc0, hc1, hc2, hc3⟩ := at_T52 (Kd.C_below (Kd.C_below HR0.out HB1.out) HB.out) (i : Int) (by omega) (by omega)
      subst e
      have hrd : rd_T52 l0_0 (i : Int) = b := by unfold rd_T52; rw [hb]; simp [hi]
      rw [hrd, Int.toNat_natCast] at hc0
      rw [hrd, Int.toNat_natCast] at hc1
      rw [hrd, Int.toNat_natCast] at hc2
      rw [hrd, Int.toNat_natCast] at hc3
      have hK := Aside0.mk hk
      have hI := Aside0.mk hi
      clear hrd hb
      have hi0 : (0 : Int) ≤ (i : Int) := by omega
      have hi1 : (i : Int) < (l0_0.length : Int) := by omega
      clear hk hi
      go_upto_region 13 with (first
        | ((with_reducible refine gate_dst (N := 9) rfl ?_); refine box_event ?hg (N := 9) ?hd (cs := #[.int .i64 0, .int .i64 0, .int .i64 0, .int .i64 0]) (t := 52) ?hr ?_; (case hd => rfl); (case hg => rfl); (case hr => first | (go_simp; done) | (go_simp; rfl)); intro g9 hg9 w9 bk9 hb9; have hyc0 := blk_cell bk9 0; have hyc1 := blk_cell bk9 1; have hyc2 := blk_cell bk9 2; have hyc3 := blk_cell bk9 3; have hyf0 := blk_frozen bk9 0; have hyf1 := blk_frozen bk9 1; have hyf2 := blk_frozen bk9 2; have hyf3 := blk_frozen bk9 3; have y0 : w9.cell? ⟨g9, 0, none⟩ = some (.int .i64 0) := hyc0.trans rfl; have y1 : w9.cell? ⟨g9, 1, none⟩ = some (.int .i64 0) := hyc1.trans rfl; have y2 : w9.cell? ⟨g9, 2, none⟩ = some (.int .i64 0) := hyc2.trans rfl; have y3 : w9.cell? ⟨g9, 3, none⟩ = some (.int .i64 0) := hyc3.trans rfl; clear hyc0 hyc1 hyc2 hyc3; have B9 := Aside0.mk bk9; have HB9 := Aside0.mk hb9; have G9 := Aside0.mk hg9; clear bk9 hb9 hg9))
      refine XH.cwp_world ?_
      intro wb hwb
      have b9 : wb.heap[g9]? = some (.cells #[.int .i64 b.f0, .int .i64 b.f1, .int .i64 b.f2, .int .i64 b.f3] 52 (0, 0)) := by rw [hwb]; exact blk_put (blk_put (blk_put (blk_put B9.out 0 _ rfl) 1 _ rfl) 2 _ rfl) 3 _ rfl
      have hbb : Below wr.heap.size wr wb := by rw [hwb]; exact below_set (below_set (below_set (below_set HB9.out (Nat.le_of_eq G9.out.symm)) (Nat.le_of_eq G9.out.symm)) (Nat.le_of_eq G9.out.symm)) (Nat.le_of_eq G9.out.symm)
      have NG := Aside0.mk (show gp ≠ g9 by obtain ⟨⟨v_, h1_, _, _⟩, _⟩ := HS.out; have := blk_lt h1_; have := G9.out; omega)
      have HS2 := Aside0.mk ((HS.out.fresh (S' := fun k => k ≠ g9) (fun k hk _ => by have := G9.out; omega)).below hbb)
      have HB2 := Aside0.mk (below_step HB.out hbb)
      clear B9 HB9 HS HB hwb hbb hc0 hc1 hc2 hc3 y0 y1 y2 y3 hyf0 hyf1 hyf2 hyf3
      have B9 := Aside0.mk b9
      have HS := HS2
      have HB := HB2
      clear b9 HS2 HB2
      have y0 : wb.cell? ⟨g9, 0, none⟩ = some (.int .i64 b.f0) := (blk_cell B9.out 0).trans rfl
      have y1 : wb.cell? ⟨g9, 1, none⟩ = some (.int .i64 b.f1) := (blk_cell B9.out 1).trans rfl
      have y2 : wb.cell? ⟨g9, 2, none⟩ = some (.int .i64 b.f2) := (blk_cell B9.out 2).trans rfl
      have y3 : wb.cell? ⟨g9, 3, none⟩ = some (.int .i64 b.f3) := (blk_cell B9.out 3).trans rfl
      go_wp2_with (first
        | (go_at_call 68; (with_reducible refine (manifest_Pack.number k (fun k => k ≠ g9) gp _ _ _ w1 _ HB.out (fun k hk => by have := blk_lt B9.out; omega) NG.out HS.out U0.out).mono ?_); rintro e wq ⟨rfl, hs_, hb_, hk_⟩; have b9_ := Aside0.mk (blk_kept B9.out hk_ (fun h => h rfl)); clear HS HB B9 y0 y1 y2 y3; have B9 := b9_; have HS := Aside0.mk hs_; have HB := Aside0.mk hb_; clear hs_ hb_ hk_ b9_; have y0 : wq.cell? ⟨g9, 0, none⟩ = some (.int .i64 b.f0) := (blk_cell B9.out 0).trans rfl; have y1 : wq.cell? ⟨g9, 1, none⟩ = some (.int .i64 b.f1) := (blk_cell B9.out 1).trans rfl; have y2 : wq.cell? ⟨g9, 2, none⟩ = some (.int .i64 b.f2) := (blk_cell B9.out 2).trans rfl; have y3 : wq.cell? ⟨g9, 3, none⟩ = some (.int .i64 b.f3) := (blk_cell B9.out 3).trans rfl)
        | (go_at_call 68; (with_reducible refine (manifest_Pack.number k (fun k => k ≠ g9) gp _ _ _ w1 _ HB.out (fun k hk => by have := blk_lt B9.out; omega) NG.out HS.out U1.out).mono ?_); rintro e wq ⟨rfl, hs_, hb_, hk_⟩; have b9_ := Aside0.mk (blk_kept B9.out hk_ (fun h => h rfl)); clear HS HB B9 y0 y1 y2 y3; have B9 := b9_; have HS := Aside0.mk hs_; have HB := Aside0.mk hb_; clear hs_ hb_ hk_ b9_; have y0 : wq.cell? ⟨g9, 0, none⟩ = some (.int .i64 b.f0) := (blk_cell B9.out 0).trans rfl; have y1 : wq.cell? ⟨g9, 1, none⟩ = some (.int .i64 b.f1) := (blk_cell B9.out 1).trans rfl; have y2 : wq.cell? ⟨g9, 2, none⟩ = some (.int .i64 b.f2) := (blk_cell B9.out 2).trans rfl; have y3 : wq.cell? ⟨g9, 3, none⟩ = some (.int .i64 b.f3) := (blk_cell B9.out 3).trans rfl)
        | (go_at_call 69; (with_reducible refine (manifest_Pack.signed k (fun k => k ≠ g9) gp _ _ _ w1 _ HB.out (fun k hk => by have := blk_lt B9.out; omega) NG.out HS.out U2.out).mono ?_); rintro e wq ⟨rfl, hs_, hb_, hk_⟩; have b9_ := Aside0.mk (blk_kept B9.out hk_ (fun h => h rfl)); clear HS HB B9 y0 y1 y2 y3; have B9 := b9_; have HS := Aside0.mk hs_; have HB := Aside0.mk hb_; clear hs_ hb_ hk_ b9_; have y0 : wq.cell? ⟨g9, 0, none⟩ = some (.int .i64 b.f0) := (blk_cell B9.out 0).trans rfl; have y1 : wq.cell? ⟨g9, 1, none⟩ = some (.int .i64 b.f1) := (blk_cell B9.out 1).trans rfl; have y2 : wq.cell? ⟨g9, 2, none⟩ = some (.int .i64 b.f2) := (blk_cell B9.out 2).trans rfl; have y3 : wq.cell? ⟨g9, 3, none⟩ = some (.int .i64 b.f3) := (blk_cell B9.out 3).trans rfl)
        | (go_at_call 69; (with_reducible refine (manifest_Pack.signed k (fun k => k ≠ g9) gp _ _ _ w1 _ HB.out (fun k hk => by have := blk_lt B9.out; omega) NG.out HS.out U3.out).mono ?_); rintro e wq ⟨rfl, hs_, hb_, hk_⟩; have b9_ := Aside0.mk (blk_kept B9.out hk_ (fun h => h rfl)); clear HS HB B9 y0 y1 y2 y3; have B9 := b9_; have HS := Aside0.mk hs_; have HB := Aside0.mk hb_; clear hs_ hb_ hk_ b9_; have y0 : wq.cell? ⟨g9, 0, none⟩ = some (.int .i64 b.f0) := (blk_cell B9.out 0).trans rfl; have y1 : wq.cell? ⟨g9, 1, none⟩ = some (.int .i64 b.f1) := (blk_cell B9.out 1).trans rfl; have y2 : wq.cell? ⟨g9, 2, none⟩ = some (.int .i64 b.f2) := (blk_cell B9.out 2).trans rfl; have y3 : wq.cell? ⟨g9, 3, none⟩ = some (.int .i64 b.f3) := (blk_cell B9.out 3).trans rfl))
      have hk := hK.out
      have hw1 : wrap64 ((i : Int) + 1) = ((i + 1 : Nat) : Int) := by unfold wrap64; have := HR0.out.2.1; have := hI.out; omega
      go_roundg k1
      case measure => omega
      case rel =>
        refine ⟨i + 1, u3, by omega, congrArg (Value.int .i64) hw1, HX4, ⟨HS.out.fresh (fun _ _ _ => trivial)⟩, HB⟩
    · obtain rfl : i = l0_0.length := by omega
      have hib : decide (((l0_0.length : Nat) : Int) < (l0_0.length : Int)) = false := decide_eq_false (by omega)
      have hX := HX.out
      rw [List.drop_length] at hX
      have hacc : acc = x4 := by injection hX
      subst hacc
      obtain ⟨⟨v, hbg, _, hro⟩, hgb⟩ := HS.out
      have HO := Aside0.mk (hro trivial)
      have z0 : wr.cell? ⟨gp, 0, none⟩ = some v := (blk_cell hbg 0).trans rfl
      clear hro hbg hgb hX HX HS
      go_wp2_with (first | (go_at_call 70; (with_reducible refine (block_Summed.calls k _ _ _ _ w1 _ HB.out HO.out X5.out).mono ?_); rintro e ws ⟨v5, rfl, hv5, hb5, _⟩; clear z0))
      refine bodyPost_ret (results_list (rs := [.tmp 2, .tmp 3]) (vs := [v5, .int .i64 0]) rfl (by simp) (by repeat constructor)) rfl ?_
      exact ⟨_, rfl, Kd.R_lower (Kd.R_mono hv5 (fun _ _ => trivial)) HB1.out.size, below_step HB1.out hb5⟩
end


end Go.Proofs.Ytjilnpbgclnecab.PManifestPacks
