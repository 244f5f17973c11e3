/- The law's own example of the chapter bits: its call comes to true. -/
import Derived.Test.YtjilnpbgclnecaaXBits
namespace Go.Proofs.Ytjilnpbgclnecaa.XBits
open Go.RowKit Go.Proofs.YtjilnpbgclnecaaW.PrintWords Go.Proofs.YtjilnpbgclnecaaW.PrintLast Go.Proofs.YtjilnpbgclnecaaW.PrintMore Go.Proofs.Ytjilnpbgclnecaa.XB Go.Proofs.Ytjilnpbgclnecaa.XH Go.Proofs.Ytjilnpbgclnecaa.PBitsReads Go.Proofs.Ytjilnpbgclnecaa.XP
attribute [local go_sem] sg_u8 sg_u16 sg_u32 sg_u64 mx_u8 mx_u16 mx_u32 mx_u64
attribute [local go_sem] max_two min_two
set_option linter.unusedVariables false
set_option linter.unusedSimpArgs false
theorem ws_new (w : World) : WS (w.alloc (.cells #[.slice none 0 0, .int .i64 0] 62)) w.heap.size (fun k => k = w.heap.size) w.heap.size [] 0 :=
  ⟨⟨_, blk_new _ _, Kd.R_nil _ _ _ _ _⟩, rfl, Nat.le_refl _⟩
theorem WS.chg {W W2 : World} {base : Nat} {S S2 : Nat → Prop} {g : Nat} {l : List Int} {n : Nat} (h : WS W base S g l n) (hk : Chg W W2 S2) (hs : ∀ k, S2 k → ¬ S k) : WS W2 base S g l n := by
  obtain ⟨⟨v, hb, hr⟩, hS, hg⟩ := h
  exact ⟨⟨v, blk_kept hb hk.kept (fun h2 => hs g h2 hS), Kd.R_kept hr hk.kept (fun k hok h2 => hs k h2 hok.1)⟩, hS, hg⟩
theorem WS.bound {W : World} {base : Nat} {S : Nat → Prop} {g : Nat} {l : List Int} {n : Nat} (h : WS W base S g l n) : WS W base (fun k => S k ∧ base ≤ k ∧ k < W.heap.size) g l n := by
  obtain ⟨⟨v, hb, hr⟩, hS, hg⟩ := h
  exact ⟨⟨v, hb, Kd.R_mono (Kd.R_bound hr) (fun k hk => ⟨⟨hk.1.1, hk.2.1, hk.2.2.1⟩, hk.1.2⟩)⟩, ⟨hS, hg, blk_lt hb⟩, hg⟩
set_option maxHeartbeats 2000000 in
set_option maxRecDepth 100000 in
theorem alive4 (w : World) : Calls Try.prog 36 #[] w fun e w' => e = .returned (.bool true) ∧ Below w.heap.size w w' := by
  have HW1 := Aside0.mk (ws_new w)
  have HB0 := Aside0.mk (Below.refl w.heap.size w)
  go_enter Try.func36, Try.ntmps36
  go_wp2_with fail
  have hb1 : Below w.heap.size w (w.alloc (.cells #[.slice none 0 0, .int .i64 0] 62)) := below_alloc (Below.refl _ _) _
  generalize (w.alloc (.cells #[.slice none 0 0, .int .i64 0] 62)) = W1 at *
  refine (put w.heap.size w.heap.size _ [] 0 5 3 W1 HW1.out (by simp) (by simp) (by simp)).mono ?_
  rintro e W2 ⟨rfl, hw2, hc2⟩
  rw [show wputs 5 (clampN 3) ([], 0) = ([160], 3) by decide +kernel] at hw2
  have hb2 := hc2.toBelow hb1 (fun k hk => by omega)
  have hs1 := hb1.size
  clear hb1 hc2 HW1
  have HW2 := Aside0.mk hw2
  have HB2 := Aside0.mk hb2
  clear hw2 hb2
  go_wp2_with fail
  refine (put w.heap.size w.heap.size _ [160] 3 1 1 W2 HW2.out (by simp) (by simp) (by simp)).mono ?_
  rintro e W3 ⟨rfl, hw3, hc3⟩
  rw [show wputs 1 (clampN 1) ([160], 3) = ([176], 4) by decide +kernel] at hw3
  have hs2 := HB2.out.size
  have HB3 := Aside0.mk (hc3.toBelow HB2.out (fun k hk => by omega))
  have HW3 := Aside0.mk hw3
  clear hc3 hw3 HB2 HW2 hs1 hs2
  go_wp2_with fail
  refine (bytes w.heap.size w.heap.size _ [176] 4 W3 HW3.out (by simp)).mono ?_
  rintro e W4 ⟨v4, rfl, hv4, hb4⟩
  obtain ⟨A4, c4, e4⟩ := Kd.R_slice hv4
  subst e4
  have HB4 := Aside0.mk (below_step HB3.out hb4)
  have HV4 := Aside0.mk hv4
  clear hb4 HW3 HB3 hv4
  go_wp2_with fail
  refine (newreader A4 c4 [176] W4 (Kd.R_reads' HV4.out).2.2 (Kd.R_reads' HV4.out).2.1 (by simp)).mono ?_
  rintro e W5 ⟨g, rfl, hr5, hb5, hg5, hg5'⟩
  have HB5 := Aside0.mk (below_step HB4.out hb5)
  have HR5 := Aside0.mk hr5
  have HV5 := Aside0.mk (Kd.R_below HV4.out hb5)
  have HG5 := Aside0.mk hg5
  have HG5' := Aside0.mk hg5'
  clear HV4 hr5 hb5 hg5 hg5'
  obtain ⟨ad, e, hc⟩ := Kd.at_int (Kd.R_reads' HV5.out).2.2 0 (by omega) (by simp)
  subst e
  rw [show rd [176] 0 = 176 from rfl] at hc
  have hc' : W5.cell? (ad.add 0) = some (.int .u8 176) := hc
  rw [Addr.add_zero'] at hc'
  clear hc
  go_wp2_with fail
  refine (get_ok g [176] 0 3 _ W5 HR5.out (fun k hk => by have := HG5'.out; omega) (by simp) (by omega) (by simp)).mono ?_
  rintro e W6 ⟨rfl, hr6, hc6⟩
  rw [show wrap64 (takeV [176] 0 3) = 5 by decide +kernel] at *
  have HB6 := Aside0.mk (hc6.toBelow HB5.out (fun k hk => by have := HG5.out; have := HB4.out.size; omega))
  have HR6 := Aside0.mk hr6
  clear hr6 hc6 HR5 HV5 hc'
  go_wp2_with (first | (go_at_call 41; (with_reducible refine (lysimeterlaw4_num.calls 0 0 _ rfl).mono ?_); rintro e w7 ⟨rfl, hd⟩; have HB7 := Aside0.mk (below_step HB6.out hd.below); have HR7 := Aside0.mk (HR6.out.chg ((Chg.refl _ (fun _ => False)).below hd.below) (fun _ h => h.elim)); clear hd HR6 HB6))
  refine (left g [176] 3 _ w7 HR7.out (by simp) (by simp)).mono ?_
  rintro e w8 ⟨rfl, m, rfl⟩
  rw [show (8 : Int) * (([176] : List Int).length : Int) - ((3 : Nat) : Int) = 5 from rfl]
  go_wp2
  go_ret
  exact ⟨rfl, pw_below_drewN HB7.out m⟩
end Go.Proofs.Ytjilnpbgclnecaa.XBits
