/- Written by a program of this session out of the translation: for Go functions Lean functions of the same answers, and the proof that the calls come to these answers. -/
import Derived.Test.YtjilnpbgclnecabPManifestGrowsx0
import Derived.Test.YtjilnpbgclnecabPManifestGrowsx1
import Derived.Test.YtjilnpbgclnecabPManifestGrowsx3
namespace Go.Proofs.Ytjilnpbgclnecab.PManifestGrows
open Go.RowKit Go.Proofs.YtjilnpbgclnecabW.PrintWords Go.Proofs.YtjilnpbgclnecabW.PrintLast Go.Proofs.YtjilnpbgclnecabW.PrintMore Go.Proofs.Ytjilnpbgclnecab.XB
attribute [local go_sem] sg_u8 sg_u16 sg_u32 sg_u64 mx_u8 mx_u16 mx_u32 mx_u64
attribute [local go_sem] max2_int min2_int max_two min_two max_three min_three max_four min_four   -- for this text's walks alone
set_option linter.unusedVariables false
set_option linter.unusedSimpArgs false

/-! ### lysimeterlaw17_ManifestGrows: function 9 -/
section
open Go.Proofs.Ytjilnpbgclnecab.XH
def lysimeterlaw17_ManifestGrows.upd (b : S52) (p : Int) (a : Int × Int × Int) : Int × Int × Int :=
 if b.f0 = p then (b.f1, (if b.f2 < a.2.1 then b.f2 else a.2.1), (if a.2.2 < b.f3 then b.f3 else a.2.2)) else a
def lysimeterlaw17_ManifestGrows.inn (b : S52) (p : List Int) (a : Int × Int × Int) : Int × Int × Int := p.foldl (fun a x => lysimeterlaw17_ManifestGrows.upd b x a) a
def lysimeterlaw17_ManifestGrows.scan (l : List S52) (p : List Int) (a : Int × Int × Int) : Int × Int × Int := l.foldl (fun a b => lysimeterlaw17_ManifestGrows.inn b p a) a
theorem lysimeterlaw17_ManifestGrows.inn_snoc (b : S52) (p : List Int) (x : Int) (a : Int × Int × Int) : lysimeterlaw17_ManifestGrows.inn b (p ++ [x]) a = lysimeterlaw17_ManifestGrows.upd b x (lysimeterlaw17_ManifestGrows.inn b p a) := by simp [lysimeterlaw17_ManifestGrows.inn]
theorem lysimeterlaw17_ManifestGrows.scan_snoc (l : List S52) (p : List Int) (b : S52) (a : Int × Int × Int) : lysimeterlaw17_ManifestGrows.scan (l ++ [b]) p a = lysimeterlaw17_ManifestGrows.inn b p (lysimeterlaw17_ManifestGrows.scan l p a) := by simp [lysimeterlaw17_ManifestGrows.scan]
def lysimeterlaw17_ManifestGrows.merge : Nat → List S52 → Int → Int → Int → Option (List S52 × Int × Int × Int)
 | 0, _, _, _, _ => none
 | k + 1, b, nx, lg, lw => (manifest_Pick.f k b nx lg lw).bind fun p =>
   if p.length = 0 then some (b, nx, lg, lw) else
    (manifest_Swap.f k b nx lg lw p (wrap64 ((lysimeterlaw17_ManifestGrows.scan b p (0, 1099511627776, 0)).1 + 1)) (lysimeterlaw17_ManifestGrows.scan b p (0, 1099511627776, 0)).2.1 (lysimeterlaw17_ManifestGrows.scan b p (0, 1099511627776, 0)).2.2).bind fun y =>
     if y.2.2.2.2.2 = 0 ∧ (y.1.length : Int) = wrap64 ((b.length : Int) - 3) then lysimeterlaw17_ManifestGrows.merge k y.1 y.2.1 y.2.2.1 y.2.2.2.1 else none
def lysimeterlaw17_ManifestGrows.main (n : Int) : Nat → Int → List S52 → Int → Int → Int → Option (List S52 × Int × Int × Int)
 | 0, _, _, _, _, _ => none
 | k + 1, i, b, nx, lg, lw => if i < n then
   (manifest_Add.f k b nx lg lw 0 i (wrap64 (i + 1))).bind fun x =>
    if x.2.2.2.2.2 = 0 ∧ x.2.2.2.2.1 = nx then (lysimeterlaw17_ManifestGrows.merge k x.1 x.2.1 x.2.2.1 x.2.2.2.1).bind fun s => lysimeterlaw17_ManifestGrows.main n k (wrap64 (i + 1)) s.1 s.2.1 s.2.2.1 s.2.2.2 else none
  else some (b, nx, lg, lw)
def lysimeterlaw17_ManifestGrows.cnt (lv : Int) (l : List S52) : Nat := (l.filter fun x => x.f1 == lv).length
theorem lysimeterlaw17_ManifestGrows.cnt_le (lv : Int) (l : List S52) : lysimeterlaw17_ManifestGrows.cnt lv l ≤ l.length := List.length_filter_le _ _
theorem lysimeterlaw17_ManifestGrows.cnt_snoc (lv : Int) (l : List S52) (x : S52) : lysimeterlaw17_ManifestGrows.cnt lv (l ++ [x]) = lysimeterlaw17_ManifestGrows.cnt lv l + (if x.f1 = lv then 1 else 0) := by
 unfold lysimeterlaw17_ManifestGrows.cnt
 rw [List.filter_append, List.length_append, List.filter_cons, List.filter_nil]
 by_cases h : x.f1 = lv
 ·rw [if_pos h, if_pos (beq_iff_eq.2 h)]; rfl
 ·rw [if_neg h, if_neg (by simpa using h)]; rfl
def lysimeterlaw17_ManifestGrows.digs : Nat → Int → Nat → List S52 → Bool
 | 0, _, _, _ => true
 | d + 1, lv, left, l => (lysimeterlaw17_ManifestGrows.cnt lv l == left % 4) && lysimeterlaw17_ManifestGrows.digs d (lv + 1) (left / 4) l
def lysimeterlaw17_ManifestGrows.f (k : Nat) (a0 : Int) : Option Bool :=
 (lysimeterlaw17_alive.f k).bind fun al => if al = true then (if a0 < 0 then some true else if 300 < a0 then some true else
  (lysimeterlaw17_of.f k []).bind fun m => (lysimeterlaw17_ManifestGrows.main a0 k 0 m.1 m.2.1 m.2.2.1 m.2.2.2).bind fun s => if lysimeterlaw17_ManifestGrows.digs 21 0 a0.toNat s.1 = true then some true else none) else some false
theorem lysimeterlaw17_ManifestGrows.merge_mono : ∀ k b nx lg lw, LeO (lysimeterlaw17_ManifestGrows.merge k b nx lg lw) (lysimeterlaw17_ManifestGrows.merge (k + 1) b nx lg lw)
 | 0, _, _, _, _ => LeO.none _
 | k + 1, b, nx, lg, lw => by
  unfold lysimeterlaw17_ManifestGrows.merge
  exact LeO.bind (manifest_Pick.mono _ _ _ _ _) fun p => LeO.ite (LeO.refl _) (LeO.bind (manifest_Swap.mono _ _ _ _ _ _ _ _ _) fun y => LeO.ite (lysimeterlaw17_ManifestGrows.merge_mono k _ _ _ _) (LeO.refl _))
theorem lysimeterlaw17_ManifestGrows.main_mono (n : Int) : ∀ k i b nx lg lw, LeO (lysimeterlaw17_ManifestGrows.main n k i b nx lg lw) (lysimeterlaw17_ManifestGrows.main n (k + 1) i b nx lg lw)
 | 0, _, _, _, _, _ => LeO.none _
 | k + 1, i, b, nx, lg, lw => by
  unfold lysimeterlaw17_ManifestGrows.main
  exact LeO.ite (LeO.bind (manifest_Add.mono _ _ _ _ _ _ _ _) fun x => LeO.ite (LeO.bind (lysimeterlaw17_ManifestGrows.merge_mono _ _ _ _ _) fun s => lysimeterlaw17_ManifestGrows.main_mono n k _ _ _ _ _) (LeO.refl _)) (LeO.refl _)
theorem lysimeterlaw17_ManifestGrows.mono : ∀ a0 k, LeO (lysimeterlaw17_ManifestGrows.f k a0) (lysimeterlaw17_ManifestGrows.f (k + 1) a0) := by
 intro a0 k
 unfold lysimeterlaw17_ManifestGrows.f
 exact LeO.bind (lysimeterlaw17_alive.mono _) fun al => LeO.ite (LeO.ite (LeO.refl _) (LeO.ite (LeO.refl _) (LeO.bind (lysimeterlaw17_of.mono _ _) fun m => LeO.bind (lysimeterlaw17_ManifestGrows.main_mono _ _ _ _ _ _ _) fun s => LeO.refl _))) (LeO.refl _)
set_option maxHeartbeats 8000000 in
set_option maxRecDepth 100000 in
theorem lysimeterlaw17_ManifestGrows.calls (k : Nat) (a0 : Int) (r : Bool) (w : World) (hr_ : r = true) (h : lysimeterlaw17_ManifestGrows.f k a0 = some r) :
  Calls Try.prog 9 #[.int .i64 a0] w fun e w' => e = .returned (.bool r) ∧ Below w.heap.size w w' := by
 subst hr_
 have hu50 := Try.underlying50
 have hu52 := Try.underlying52
 have HB := Aside0.mk (Below.refl w.heap.size w)
 unfold lysimeterlaw17_ManifestGrows.f at h
 obtain ⟨al, h1, h⟩ := Option.bind_eq_some_iff.mp h
 have AL := Aside0.mk h1
 clear h1
 by_cases hal : al = true
 case neg => rw [if_neg hal] at h; cases h
 subst hal
 rw [if_pos rfl] at h
 by_cases h0 : a0 < 0
 ·have h0b : decide (a0 < 0) = true := decide_eq_true h0
  clear h h0
  go_enter Try.func9, Try.ntmps9
  go_wp2_with (first | ((with_reducible refine gate_callee (f := 30) rfl ?_); refine goesL_ (some 22) rfl rfl Try.func30 (by kernel_rfl) rfl #[] rfl (by first | (simp; done) | ((try simp only [List.map_toArray, List.map_cons, List.map_nil]); first | done | rfl)) ?_; (with_reducible refine (lysimeterlaw17_alive.calls k true _ AL.out).mono ?_); rintro e w2 ⟨rfl, hb_⟩; refine ⟨_, rfl, ?_⟩; have n0_ := Aside0.mk (below_step HB.out hb_); clear HB; have HB := n0_; clear n0_; clear hb_) | go_in)
  go_ret
  exact ⟨rfl, HB.out⟩
 rw [if_neg h0] at h
 have h0b : decide (a0 < 0) = false := decide_eq_false h0
 by_cases h3 : 300 < a0
 ·have h3b : decide ((300 : Int) < a0) = true := decide_eq_true h3
  clear h h0 h3
  go_enter Try.func9, Try.ntmps9
  go_wp2_with (first | ((with_reducible refine gate_callee (f := 30) rfl ?_); refine goesL_ (some 22) rfl rfl Try.func30 (by kernel_rfl) rfl #[] rfl (by first | (simp; done) | ((try simp only [List.map_toArray, List.map_cons, List.map_nil]); first | done | rfl)) ?_; (with_reducible refine (lysimeterlaw17_alive.calls k true _ AL.out).mono ?_); rintro e w2 ⟨rfl, hb_⟩; refine ⟨_, rfl, ?_⟩; have n0_ := Aside0.mk (below_step HB.out hb_); clear HB; have HB := n0_; clear n0_; clear hb_) | go_in)
  go_ret
  exact ⟨rfl, HB.out⟩
 rw [if_neg h3] at h
 have h3b : decide ((300 : Int) < a0) = false := decide_eq_false h3
 have BN := Aside0.mk (show 0 ≤ a0 ∧ a0 ≤ 300 by omega)
 clear h0 h3
 obtain ⟨⟨m1, m2, m3, m4⟩, hof, h⟩ := Option.bind_eq_some_iff.mp h
 obtain ⟨⟨e1, e2, e3, e4⟩, hmain, h⟩ := Option.bind_eq_some_iff.mp h
 by_cases hdig : lysimeterlaw17_ManifestGrows.digs 21 0 a0.toNat e1 = true
 case neg => rw [if_neg hdig] at h; cases h
 clear h
 have FOF := Aside0.mk hof
 have FM := Aside0.mk hmain
 have FD := Aside0.mk hdig
 clear hof hmain hdig
 go_enter Try.func9, Try.ntmps9
 go_upto_region 5 with (first | ((with_reducible refine gate_callee (f := 30) rfl ?_); refine goesL_ (some 22) rfl rfl Try.func30 (by kernel_rfl) rfl #[] rfl (by first | (simp; done) | ((try simp only [List.map_toArray, List.map_cons, List.map_nil]); first | done | rfl)) ?_; (with_reducible refine (lysimeterlaw17_alive.calls k true _ AL.out).mono ?_); rintro e w2 ⟨rfl, hb_⟩; refine ⟨_, rfl, ?_⟩; have n0_ := Aside0.mk (below_step HB.out hb_); clear HB; have HB := n0_; clear n0_; clear hb_) | ((with_reducible refine gate_callee (f := 37) rfl ?_); refine goesL_ (some 34) rfl rfl Try.func37 (by kernel_rfl) rfl #[.slice none 0 0] rfl (by first | (simp; done) | ((try simp only [List.map_toArray, List.map_cons, List.map_nil]); first | done | rfl)) ?_; (refine (lysimeterlaw17_of.calls k none 0 [] m1 m2 m3 m4 _ (Kd.C_nil _ _) (Nat.le_refl _) FOF.out).mono ?_); rintro e w3 ⟨v_, rfl, hv_, hb_⟩; refine ⟨_, rfl, ?_⟩; have Rm := Aside0.mk (Kd.R_lower hv_ (below_size HB.out)); clear hv_; obtain ⟨Am, cm, e_⟩ := Kd.R_slice Rm.out; subst e_; have n0_ := Aside0.mk (below_step HB.out hb_); clear HB; have HB := n0_; clear n0_; clear hb_) | ((with_reducible refine gate_dst (N := 4) rfl ?_); refine box_event ?hg (N := 4) ?hd (cs := #[.slice none 0 0, .int .i64 0, .int .i64 0, .int .i64 0]) (t := 50) ?hr ?_; (case hd => rfl); (case hg => rfl); (case hr => first | (go_simp; done) | (go_simp; rfl)); intro g4 hg_ w4 bk_ hb_; have Z4 := Aside0.mk bk_; clear bk_; have L4 := Aside0.mk (show w3.heap.size ≤ g4 from Nat.le_of_eq hg_.symm); have HZ := Aside0.mk hb_; clear hg_ hb_; have qy0 : w4.cell? ⟨g4, 0, none⟩ = some (.slice none 0 0) := (blk_cell Z4.out 0).trans rfl; have qy1 : w4.cell? ⟨g4, 1, none⟩ = some (.int .i64 0) := (blk_cell Z4.out 1).trans rfl; have qy2 : w4.cell? ⟨g4, 2, none⟩ = some (.int .i64 0) := (blk_cell Z4.out 2).trans rfl; have qy3 : w4.cell? ⟨g4, 3, none⟩ = some (.int .i64 0) := (blk_cell Z4.out 3).trans rfl; have qyf0 := blk_frozen Z4.out 0; have qyf1 := blk_frozen Z4.out 1; have qyf2 := blk_frozen Z4.out 2; have qyf3 := blk_frozen Z4.out 3) | go_in)
 refine cwp_world ?_
 intro w5 hw_
 have hbb : Below w3.heap.size w3 w5 := by rw [hw_]; exact below_set (below_set (below_set (below_set HZ.out L4.out) L4.out) L4.out) L4.out
 have bz : w5.heap[g4]? = some (.cells #[.slice Am m1.length cm, .int .i64 m2, .int .i64 m3, .int .i64 m4] 50 (0, 0)) := by rw [hw_]; exact blk_put (blk_put (blk_put (blk_put Z4.out 0 _ rfl) 1 _ rfl) 2 _ rfl) 3 _ rfl
 have G4 := Aside0.mk (show w.heap.size ≤ g4 from Nat.le_trans (below_size HB.out) L4.out)
 have n0_ := Aside0.mk (below_step HB.out hbb)
 have n1_ := Aside0.mk (Kd.R_below Rm.out hbb)
 clear Rm HB
 have HB := n0_
 have Rm := n1_
 clear n0_ n1_
 clear HZ Z4 hw_ hbb L4
 (try clear z0 z1 z2 z3 zf0 zf1 zf2 zf3)
 clear qy0 qy1 qy2 qy3 qyf0 qyf1 qyf2 qyf3
 have B4 := Aside0.mk bz
 clear bz
 go_wp2
 go_loopg [5] k (fun kq v5 w' => ∃ (i : Int) (b : List S52) (nx lg lw : Int) (A : Option Addr) (c : Nat), v5 = .int .i64 i ∧ Aside0 (lysimeterlaw17_ManifestGrows.main a0 kq i b nx lg lw = some (e1, e2, e3, e4)) ∧ Aside0 (kq ≤ k) ∧ Aside0 (w'.heap[g4]? = some (.cells #[.slice A b.length c, .int .i64 nx, .int .i64 lg, .int .i64 lw] 50 (0, 0))) ∧ Aside0 (Kd.R k52 52 w' w.heap.size (fun _ => True) (.slice A b.length c) b) ∧ Aside0 (Below w.heap.size w w'))
 case atStart => exact ⟨0, m1, m2, m3, m4, Am, cm, rfl, FM, ⟨Nat.le_refl _⟩, B4, Rm, HB⟩
 case round =>
  clear B4 Rm HB FM FOF
  obtain ⟨i, b, nx, lg, lw, A, c, rfl, HM, HK, B4, RB, HB⟩ := hrel
  cases gk with
  | zero => exact absurd HM.out (by simp [lysimeterlaw17_ManifestGrows.main])
  | succ k1 =>
   have H := HM.out
   clear HM
   simp only [lysimeterlaw17_ManifestGrows.main] at H
   by_cases hi : i < a0
   ·rw [if_pos hi] at H
    obtain ⟨⟨x1, x2, x3, x4, x5, x6⟩, hadd, H⟩ := Option.bind_eq_some_iff.mp H
    dsimp only at H
    by_cases hx : x6 = 0 ∧ x5 = nx
    case neg => rw [if_neg hx] at H; cases H
    rw [if_pos hx] at H
    obtain ⟨rfl, hx⟩ := hx
    obtain rfl := hx.symm
    obtain ⟨⟨s1, s2, s3, s4⟩, hmg, H⟩ := Option.bind_eq_some_iff.mp H
    dsimp only at H
    have FADD := Aside0.mk hadd
    have FMG := Aside0.mk hmg
    have HN := Aside0.mk H
    clear hadd hmg H
    have hib : decide (i < a0) = true := decide_eq_true hi
    have IB := Aside0.mk hi
    clear hi
    have z0 : wr.cell? ⟨g4, 0, none⟩ = some (.slice A b.length c) := (blk_cell B4.out 0).trans rfl
    have z1 : wr.cell? ⟨g4, 1, none⟩ = some (.int .i64 nx) := (blk_cell B4.out 1).trans rfl
    have z2 : wr.cell? ⟨g4, 2, none⟩ = some (.int .i64 lg) := (blk_cell B4.out 2).trans rfl
    have z3 : wr.cell? ⟨g4, 3, none⟩ = some (.int .i64 lw) := (blk_cell B4.out 3).trans rfl
    have zf0 := blk_frozen B4.out 0
    have zf1 := blk_frozen B4.out 1
    have zf2 := blk_frozen B4.out 2
    have zf3 := blk_frozen B4.out 3
    go_upto_region 9 with (first | ((with_reducible refine gate_callee (f := 31) rfl ?_); refine goesL_ (some 45) rfl rfl Try.func31 (by kernel_rfl) rfl #[.agg #[.slice A b.length c, .int .i64 nx, .int .i64 lg, .int .i64 lw], .int .i64 0, .int .i64 i, .int .i64 (wrap64 (i + 1))] rfl (by first | (simp; done) | ((try simp only [List.map_toArray, List.map_cons, List.map_nil]); first | done | rfl)) ?_; (with_reducible refine (manifest_Add.calls k1 _ _ b nx lg lw 0 i (wrap64 (i + 1)) x1 x2 x3 x4 nx 0 _ ?side1 ?side2 FADD.out).mono ?_); (case side1 => exact (Kd.R_reads' RB.out).2.2); (case side2 => exact (Kd.R_reads' RB.out).2.1); rintro e wx1 ⟨v_, rfl, hv_, hb_⟩; refine ⟨_, rfl, ?_⟩; have Rx := Aside0.mk (Kd.R_lower hv_ (below_size HB.out)); clear hv_; obtain ⟨Ax, cx, e_⟩ := Kd.R_slice Rx.out; subst e_; have n0_ := Aside0.mk (blk_below B4.out hb_); have n1_ := Aside0.mk (Kd.R_below RB.out hb_); have n2_ := Aside0.mk (below_step HB.out hb_); clear HB RB B4; have B4 := n0_; have RB := n1_; have HB := n2_; clear n0_ n1_ n2_; clear hb_) | ((with_reducible refine gate_dst (N := 6) rfl ?_); refine box_event ?hg (N := 6) ?hd (cs := #[.slice none 0 0, .int .i64 0, .int .i64 0, .int .i64 0]) (t := 50) ?hr ?_; (case hd => rfl); (case hg => rfl); (case hr => first | (go_simp; done) | (go_simp; rfl)); intro g6 hg_ wx2 bk_ hb_; have Z6 := Aside0.mk bk_; clear bk_; have L6 := Aside0.mk (show wx1.heap.size ≤ g6 from Nat.le_of_eq hg_.symm); have HZ := Aside0.mk hb_; clear hg_ hb_; have qy0 : wx2.cell? ⟨g6, 0, none⟩ = some (.slice none 0 0) := (blk_cell Z6.out 0).trans rfl; have qy1 : wx2.cell? ⟨g6, 1, none⟩ = some (.int .i64 0) := (blk_cell Z6.out 1).trans rfl; have qy2 : wx2.cell? ⟨g6, 2, none⟩ = some (.int .i64 0) := (blk_cell Z6.out 2).trans rfl; have qy3 : wx2.cell? ⟨g6, 3, none⟩ = some (.int .i64 0) := (blk_cell Z6.out 3).trans rfl; have qyf0 := blk_frozen Z6.out 0; have qyf1 := blk_frozen Z6.out 1; have qyf2 := blk_frozen Z6.out 2; have qyf3 := blk_frozen Z6.out 3) | go_in)
    refine cwp_world ?_
    intro wx3 hw_
    have hbb : Below wx1.heap.size wx1 wx3 := by rw [hw_]; exact below_set (below_set (below_set (below_set HZ.out L6.out) L6.out) L6.out) L6.out
    have bz : wx3.heap[g6]? = some (.cells #[.slice Ax x1.length cx, .int .i64 x2, .int .i64 x3, .int .i64 x4] 50 (0, 0)) := by rw [hw_]; exact blk_put (blk_put (blk_put (blk_put Z6.out 0 _ rfl) 1 _ rfl) 2 _ rfl) 3 _ rfl
    have G6 := Aside0.mk (show w.heap.size ≤ g6 from Nat.le_trans (below_size HB.out) L6.out)
    have NE6 := Aside0.mk (show g4 ≠ g6 by have := blk_lt B4.out; have := L6.out; omega)
    have n0_ := Aside0.mk (blk_below B4.out hbb)
    have n1_ := Aside0.mk (Kd.R_below RB.out hbb)
    have n2_ := Aside0.mk (below_step HB.out hbb)
    have n3_ := Aside0.mk (Kd.R_below Rx.out hbb)
    clear Rx HB RB B4
    have B4 := n0_
    have RB := n1_
    have HB := n2_
    have Rx := n3_
    clear n0_ n1_ n2_ n3_
    clear HZ Z6 hw_ hbb L6
    (try clear z0 z1 z2 z3 zf0 zf1 zf2 zf3)
    clear qy0 qy1 qy2 qy3 qyf0 qyf1 qyf2 qyf3
    have B6 := Aside0.mk bz
    clear bz
    have z0 : wx3.cell? ⟨g4, 0, none⟩ = some (.slice A b.length c) := (blk_cell B4.out 0).trans rfl
    have z1 : wx3.cell? ⟨g4, 1, none⟩ = some (.int .i64 nx) := (blk_cell B4.out 1).trans rfl
    have z2 : wx3.cell? ⟨g4, 2, none⟩ = some (.int .i64 lg) := (blk_cell B4.out 2).trans rfl
    have z3 : wx3.cell? ⟨g4, 3, none⟩ = some (.int .i64 lw) := (blk_cell B4.out 3).trans rfl
    have zf0 := blk_frozen B4.out 0
    have zf1 := blk_frozen B4.out 1
    have zf2 := blk_frozen B4.out 2
    have zf3 := blk_frozen B4.out 3
    go_upto_region 11 with (first | ((with_reducible refine gate_callee (f := 36) rfl ?_); (try (refine gate_guard (by rfl) ?_; dsimp only)); refine goesL_ (some 50) rfl rfl Try.func36 (by kernel_rfl) rfl #[.int .i64 0] rfl (by first | (simp; done) | ((try simp only [List.map_toArray, List.map_cons, List.map_nil]); first | done | rfl)) ?_; (with_reducible refine (lysimeterlaw17_num.calls 0 0 _ rfl).mono ?_); rintro e wx4 ⟨rfl, hb_⟩; refine ⟨_, rfl, ?_⟩; have hbb := hb_.below; clear hb_; have n0_ := Aside0.mk (blk_below B4.out hbb); have n1_ := Aside0.mk (Kd.R_below RB.out hbb); have n2_ := Aside0.mk (below_step HB.out hbb); have n3_ := Aside0.mk (Kd.R_below Rx.out hbb); have n4_ := Aside0.mk (blk_below B6.out hbb); clear B6 Rx HB RB B4; have B4 := n0_; have RB := n1_; have HB := n2_; have Rx := n3_; have B6 := n4_; clear n0_ n1_ n2_ n3_ n4_; clear hbb; clear z0 z1 z2 z3 zf0 zf1 zf2 zf3; have z0 : wx4.cell? ⟨g4, 0, none⟩ = some (.slice A b.length c) := (blk_cell B4.out 0).trans rfl; have z1 : wx4.cell? ⟨g4, 1, none⟩ = some (.int .i64 nx) := (blk_cell B4.out 1).trans rfl; have z2 : wx4.cell? ⟨g4, 2, none⟩ = some (.int .i64 lg) := (blk_cell B4.out 2).trans rfl; have z3 : wx4.cell? ⟨g4, 3, none⟩ = some (.int .i64 lw) := (blk_cell B4.out 3).trans rfl; have zf0 := blk_frozen B4.out 0; have zf1 := blk_frozen B4.out 1; have zf2 := blk_frozen B4.out 2; have zf3 := blk_frozen B4.out 3) | go_in)
    have y0 : wx4.cell? ⟨g6, 0, none⟩ = some (.slice Ax x1.length cx) := (blk_cell B6.out 0).trans rfl
    have y1 : wx4.cell? ⟨g6, 1, none⟩ = some (.int .i64 x2) := (blk_cell B6.out 1).trans rfl
    have y2 : wx4.cell? ⟨g6, 2, none⟩ = some (.int .i64 x3) := (blk_cell B6.out 2).trans rfl
    have y3 : wx4.cell? ⟨g6, 3, none⟩ = some (.int .i64 x4) := (blk_cell B6.out 3).trans rfl
    have yf0 := blk_frozen B6.out 0
    have yf1 := blk_frozen B6.out 1
    have yf2 := blk_frozen B6.out 2
    have yf3 := blk_frozen B6.out 3
    go_wp2
    clear z0 z1 z2 z3 zf0 zf1 zf2 zf3 y0 y1 y2 y3 yf0 yf1 yf2 yf3
    have hon := ((((Only.refl g4 wx4).set 0 (.slice Ax x1.length cx)).set 1 (.int .i64 x2)).set 2 (.int .i64 x3)).set 3 (.int .i64 x4)
    have b4 := blk_put (blk_put (blk_put (blk_put B4.out 0 (.slice Ax x1.length cx) rfl) 1 (.int .i64 x2) rfl) 2 (.int .i64 x3) rfl) 3 (.int .i64 x4) rfl
    go_loopg [9] k1 (fun kq v9 w' => ∃ (b' : List S52) (nx' lg' lw' : Int) (A' : Option Addr) (c' : Nat), Aside0 (lysimeterlaw17_ManifestGrows.merge kq b' nx' lg' lw' = some (s1, s2, s3, s4)) ∧ Aside0 (kq ≤ k1) ∧ Aside0 (w'.heap[g4]? = some (.cells #[.slice A' b'.length c', .int .i64 nx', .int .i64 lg', .int .i64 lw'] 50 (0, 0))) ∧ Aside0 (Kd.R k52 52 w' w.heap.size (fun _ => True) (.slice A' b'.length c') b') ∧ Aside0 (Below w.heap.size w w'))
    case atStart => exact ⟨x1, x2, x3, x4, Ax, cx, FMG, ⟨Nat.le_refl _⟩, ⟨b4⟩, ⟨hon.R Rx.out B4.out (by decide)⟩, ⟨below_set (below_set (below_set (below_set HB.out G4.out) G4.out) G4.out) G4.out⟩⟩
    case round =>
     clear b4 hon B4 RB HB Rx B6 FMG FADD G6 NE6
     obtain ⟨b', nx', lg', lw', A', c', HM, HK2, B4, RB, HB⟩ := hrel
     cases gk with
     | zero => exact absurd HM.out (by simp [lysimeterlaw17_ManifestGrows.merge])
     | succ k2 =>
      have H := HM.out
      clear HM
      simp only [lysimeterlaw17_ManifestGrows.merge] at H
      obtain ⟨p, hp, H⟩ := Option.bind_eq_some_iff.mp H
      have FP := Aside0.mk hp
      clear hp
      have z0 : wr.cell? ⟨g4, 0, none⟩ = some (.slice A' b'.length c') := (blk_cell B4.out 0).trans rfl
      have z1 : wr.cell? ⟨g4, 1, none⟩ = some (.int .i64 nx') := (blk_cell B4.out 1).trans rfl
      have z2 : wr.cell? ⟨g4, 2, none⟩ = some (.int .i64 lg') := (blk_cell B4.out 2).trans rfl
      have z3 : wr.cell? ⟨g4, 3, none⟩ = some (.int .i64 lw') := (blk_cell B4.out 3).trans rfl
      have zf0 := blk_frozen B4.out 0
      have zf1 := blk_frozen B4.out 1
      have zf2 := blk_frozen B4.out 2
      have zf3 := blk_frozen B4.out 3
      by_cases hpl : p.length = 0
      ·rw [if_pos hpl] at H
       simp only [Option.some.injEq, Prod.mk.injEq] at H
       obtain ⟨rfl, rfl, rfl, rfl⟩ := H
       have hpb : (((p.length : Nat) : Int) == 0) = true := beq_iff_eq.2 (by omega)
       clear hpl
       go_wp2_with (first | ((with_reducible refine gate_callee (f := 38) rfl ?_); refine goesL_ (some 60) rfl rfl Try.func38 (by kernel_rfl) rfl #[.agg #[.slice A' b'.length c', .int .i64 nx', .int .i64 lg', .int .i64 lw']] rfl (by first | (simp; done) | ((try simp only [List.map_toArray, List.map_cons, List.map_nil]); first | done | rfl)) ?_; (with_reducible refine (manifest_Pick.calls k2 _ _ b' nx' lg' lw' p _ ?side1 ?side2 FP.out).mono ?_); (case side1 => exact (Kd.R_reads' RB.out).2.2); (case side2 => exact (Kd.R_reads' RB.out).2.1); rintro e wp ⟨v_, rfl, ⟨Ap, cp, rfl, hcp_, hf_⟩, hb_⟩; refine ⟨_, rfl, ?_⟩; have CP := Aside0.mk (hf_ _ (fun _ _ _ => rfl)); have KP := Aside0.mk hcp_; clear hf_ hcp_; have n0_ := Aside0.mk (blk_below B4.out hb_); have n1_ := Aside0.mk (Kd.R_below RB.out hb_); have n2_ := Aside0.mk (below_step HB.out hb_); clear HB RB B4; have B4 := n0_; have RB := n1_; have HB := n2_; clear n0_ n1_ n2_; clear hb_; clear z0 z1 z2 z3 zf0 zf1 zf2 zf3) | go_in)
       go_roundg k1
       case measure => have := HK.out; omega
       case rel => exact ⟨wrap64 (i + 1), b', nx', lg', lw', A', c', rfl, HN, ⟨by have := HK.out; omega⟩, B4, RB, HB⟩
      ·rw [if_neg hpl] at H
       have hpb : (((p.length : Nat) : Int) == 0) = false := beq_eq_false_iff_ne.2 (by omega)
       clear hpl
       obtain ⟨⟨y1, y2, y3, y4, y5, y6⟩, hsw, H⟩ := Option.bind_eq_some_iff.mp H
       dsimp only at H
       by_cases hy : y6 = 0 ∧ (y1.length : Int) = wrap64 ((b'.length : Int) - 3)
       case neg => rw [if_neg hy] at H; cases H
       rw [if_pos hy] at H
       obtain ⟨rfl, hy⟩ := hy
       have FSW := Aside0.mk hsw
       have HN2 := Aside0.mk H
       have HY := Aside0.mk hy
       clear hsw H hy
       go_wp2_with (first | ((with_reducible refine gate_callee (f := 38) rfl ?_); refine goesL_ (some 60) rfl rfl Try.func38 (by kernel_rfl) rfl #[.agg #[.slice A' b'.length c', .int .i64 nx', .int .i64 lg', .int .i64 lw']] rfl (by first | (simp; done) | ((try simp only [List.map_toArray, List.map_cons, List.map_nil]); first | done | rfl)) ?_; (with_reducible refine (manifest_Pick.calls k2 _ _ b' nx' lg' lw' p _ ?side1 ?side2 FP.out).mono ?_); (case side1 => exact (Kd.R_reads' RB.out).2.2); (case side2 => exact (Kd.R_reads' RB.out).2.1); rintro e wp ⟨v_, rfl, ⟨Ap, cp, rfl, hcp_, hf_⟩, hb_⟩; refine ⟨_, rfl, ?_⟩; have CP := Aside0.mk (hf_ _ (fun _ _ _ => rfl)); have KP := Aside0.mk hcp_; clear hf_ hcp_; have n0_ := Aside0.mk (blk_below B4.out hb_); have n1_ := Aside0.mk (Kd.R_below RB.out hb_); have n2_ := Aside0.mk (below_step HB.out hb_); clear HB RB B4; have B4 := n0_; have RB := n1_; have HB := n2_; clear n0_ n1_ n2_; clear hb_; clear z0 z1 z2 z3 zf0 zf1 zf2 zf3) | go_in)
       have CBp := Aside0.mk (Kd.R_reads' RB.out).2.2
       go_loopg [10, 11, 12, 13] b'.length (fun kq v10 v11 v12 v13 w' => ∃ (j : Nat), j ≤ b'.length ∧ kq + j = b'.length ∧ v13 = .int .i64 j ∧ v10 = .int .i64 (lysimeterlaw17_ManifestGrows.scan (b'.take j) p (0, 1099511627776, 0)).1 ∧ v11 = .int .i64 (lysimeterlaw17_ManifestGrows.scan (b'.take j) p (0, 1099511627776, 0)).2.1 ∧ v12 = .int .i64 (lysimeterlaw17_ManifestGrows.scan (b'.take j) p (0, 1099511627776, 0)).2.2 ∧ Aside0 (Below wp.heap.size wp w'))
       case atStart => exact ⟨0, Nat.zero_le _, rfl, rfl, rfl, rfl, rfl, ⟨Below.refl _ _⟩⟩
       case round =>
        obtain ⟨j, hj, hk, rfl, rfl, rfl, rfl, HL⟩ := hrel
        by_cases hlt : j < b'.length
        ·obtain ⟨k3, rfl⟩ : ∃ k3, gk = k3 + 1 := ⟨gk - 1, by omega⟩
         have hjb : decide ((j : Int) < (b'.length : Int)) = true := decide_eq_true (by omega)
         have hjc : decide (j < b'.length) = true := decide_eq_true hlt
         have z0 : wr.cell? ⟨g4, 0, none⟩ = some (.slice A' b'.length c') := (blk_cell (Aside0.mk (blk_below B4.out HL.out)).out 0).trans rfl
         have z1 : wr.cell? ⟨g4, 1, none⟩ = some (.int .i64 nx') := (blk_cell (Aside0.mk (blk_below B4.out HL.out)).out 1).trans rfl
         have z2 : wr.cell? ⟨g4, 2, none⟩ = some (.int .i64 lg') := (blk_cell (Aside0.mk (blk_below B4.out HL.out)).out 2).trans rfl
         have z3 : wr.cell? ⟨g4, 3, none⟩ = some (.int .i64 lw') := (blk_cell (Aside0.mk (blk_below B4.out HL.out)).out 3).trans rfl
         have zf0 := blk_frozen (Aside0.mk (blk_below B4.out HL.out)).out 0
         have zf1 := blk_frozen (Aside0.mk (blk_below B4.out HL.out)).out 1
         have zf2 := blk_frozen (Aside0.mk (blk_below B4.out HL.out)).out 2
         have zf3 := blk_frozen (Aside0.mk (blk_below B4.out HL.out)).out 3
         go_wp2
         clear z0 z1 z2 z3 zf0 zf1 zf2 zf3
         go_loopg [10, 11, 12, 14] p.length (fun kq v10 v11 v12 v14 w' => ∃ (m : Nat), m ≤ p.length ∧ kq + m = p.length ∧ v14 = .int .i64 m ∧ v10 = .int .i64 (lysimeterlaw17_ManifestGrows.inn b'[j] (p.take m) (lysimeterlaw17_ManifestGrows.scan (b'.take j) p (0, 1099511627776, 0))).1 ∧ v11 = .int .i64 (lysimeterlaw17_ManifestGrows.inn b'[j] (p.take m) (lysimeterlaw17_ManifestGrows.scan (b'.take j) p (0, 1099511627776, 0))).2.1 ∧ v12 = .int .i64 (lysimeterlaw17_ManifestGrows.inn b'[j] (p.take m) (lysimeterlaw17_ManifestGrows.scan (b'.take j) p (0, 1099511627776, 0))).2.2 ∧ Aside0 (Below wp.heap.size wp w'))
         case atStart => exact ⟨0, Nat.zero_le _, rfl, rfl, rfl, rfl, rfl, HL⟩
         case round =>
          clear HL
          obtain ⟨m, hm, hkm, rfl, rfl, rfl, rfl, HL⟩ := hrel
          by_cases hlm : m < p.length
          ·obtain ⟨k4, rfl⟩ : ∃ k4, gk = k4 + 1 := ⟨gk - 1, by omega⟩
           have hmb : decide ((m : Int) < (p.length : Int)) = true := decide_eq_true (by omega)
           have hmc : decide (m < p.length) = true := decide_eq_true hlm
           have z0 : wr.cell? ⟨g4, 0, none⟩ = some (.slice A' b'.length c') := (blk_cell (Aside0.mk (blk_below B4.out HL.out)).out 0).trans rfl
           have z1 : wr.cell? ⟨g4, 1, none⟩ = some (.int .i64 nx') := (blk_cell (Aside0.mk (blk_below B4.out HL.out)).out 1).trans rfl
           have z2 : wr.cell? ⟨g4, 2, none⟩ = some (.int .i64 lg') := (blk_cell (Aside0.mk (blk_below B4.out HL.out)).out 2).trans rfl
           have z3 : wr.cell? ⟨g4, 3, none⟩ = some (.int .i64 lw') := (blk_cell (Aside0.mk (blk_below B4.out HL.out)).out 3).trans rfl
           have zf0 := blk_frozen (Aside0.mk (blk_below B4.out HL.out)).out 0
           have zf1 := blk_frozen (Aside0.mk (blk_below B4.out HL.out)).out 1
           have zf2 := blk_frozen (Aside0.mk (blk_below B4.out HL.out)).out 2
           have zf3 := blk_frozen (Aside0.mk (blk_below B4.out HL.out)).out 3
           obtain ⟨ad, e, q0, q1, q2, q3⟩ := at_T52 (Kd.C_below CBp.out HL.out) (j : Int) (by omega) (by omega)
           cases e
           obtain ⟨ad', e, q4⟩ := Kd.at_int (Kd.C_below CP.out HL.out) (m : Int) (by omega) (by omega)
           cases e
           rw [Int.toNat_natCast] at q0 q1 q2 q3 q4
           have hrb : rd_T52 b' (j : Int) = b'[j] := by unfold rd_T52; rw [Int.toNat_natCast, List.getD_eq_getElem?_getD, List.getElem?_eq_getElem hlt]; rfl
           have hrp : rd p (m : Int) = p[m] := by unfold rd; rw [Int.toNat_natCast, List.getD_eq_getElem?_getD, List.getElem?_eq_getElem hlm]; rfl
           rw [hrb] at q0 q1 q2 q3
           rw [hrp] at q4
           have t0 : (0 ≤ (j : Int)) = True := eq_true (by omega)
           have t1 : ((j : Int) < (b'.length : Int)) = True := eq_true (by omega)
           have t2 : (j < b'.length) = True := eq_true hlt
           have t3 : (0 ≤ (m : Int)) = True := eq_true (by omega)
           have t4 : ((m : Int) < (p.length : Int)) = True := eq_true (by omega)
           have t5 : (m < p.length) = True := eq_true hlm
           have htk : p.take (m + 1) = p.take m ++ [p[m]] := List.take_succ_eq_append_getElem hlm
           have hw4 : wrap64 ((m : Int) + 1) = ((m + 1 : Nat) : Int) := by have := CP.out.2.1; unfold wrap64; omega
           by_cases hE : b'[j].f0 = p[m]
           ·have hEb : (b'[j].f0 == p[m]) = true := beq_iff_eq.2 hE
            have hin : (lysimeterlaw17_ManifestGrows.inn b'[j] (p.take (m + 1)) (lysimeterlaw17_ManifestGrows.scan (b'.take j) p (0, 1099511627776, 0))) = (b'[j].f1, (if b'[j].f2 < (lysimeterlaw17_ManifestGrows.inn b'[j] (p.take m) (lysimeterlaw17_ManifestGrows.scan (b'.take j) p (0, 1099511627776, 0))).2.1 then b'[j].f2 else (lysimeterlaw17_ManifestGrows.inn b'[j] (p.take m) (lysimeterlaw17_ManifestGrows.scan (b'.take j) p (0, 1099511627776, 0))).2.1), (if (lysimeterlaw17_ManifestGrows.inn b'[j] (p.take m) (lysimeterlaw17_ManifestGrows.scan (b'.take j) p (0, 1099511627776, 0))).2.2 < b'[j].f3 then b'[j].f3 else (lysimeterlaw17_ManifestGrows.inn b'[j] (p.take m) (lysimeterlaw17_ManifestGrows.scan (b'.take j) p (0, 1099511627776, 0))).2.2)) := by
             rw [htk, lysimeterlaw17_ManifestGrows.inn_snoc]; exact if_pos hE
            by_cases hF : b'[j].f2 < (lysimeterlaw17_ManifestGrows.inn b'[j] (p.take m) (lysimeterlaw17_ManifestGrows.scan (b'.take j) p (0, 1099511627776, 0))).2.1
            all_goals by_cases hG : (lysimeterlaw17_ManifestGrows.inn b'[j] (p.take m) (lysimeterlaw17_ManifestGrows.scan (b'.take j) p (0, 1099511627776, 0))).2.2 < b'[j].f3
            all_goals
             first | rw [if_pos hF] at hin | rw [if_neg hF] at hin
             first | rw [if_pos hG] at hin | rw [if_neg hG] at hin
             have HIN := Aside0.mk hin
             clear hin hE
             first | replace hF := decide_eq_false hF | replace hF := decide_eq_true hF
             first | replace hG := decide_eq_false hG | replace hG := decide_eq_true hG
             go_wp2
             go_quiet (fail)
             go_wp2
             go_roundg k4
             case measure => omega
             case rel => exact ⟨m + 1, by omega, by omega, by first | rfl | exact congrArg (Value.int .i64) hw4, by rw [HIN.out], by rw [HIN.out], by rw [HIN.out], ⟨pw_below_drewN HL.out _⟩⟩
           ·have hEb : (b'[j].f0 == p[m]) = false := beq_eq_false_iff_ne.2 hE
            have hin : (lysimeterlaw17_ManifestGrows.inn b'[j] (p.take (m + 1)) (lysimeterlaw17_ManifestGrows.scan (b'.take j) p (0, 1099511627776, 0))) = (lysimeterlaw17_ManifestGrows.inn b'[j] (p.take m) (lysimeterlaw17_ManifestGrows.scan (b'.take j) p (0, 1099511627776, 0))) := by
             rw [htk, lysimeterlaw17_ManifestGrows.inn_snoc]; exact if_neg hE
            have HIN := Aside0.mk hin
            clear hin hE
            go_wp2
            go_quiet (fail)
            go_wp2
            go_roundg k4
            case measure => omega
            case rel => exact ⟨m + 1, by omega, by omega, by first | rfl | exact congrArg (Value.int .i64) hw4, by rw [HIN.out], by rw [HIN.out], by rw [HIN.out], ⟨pw_below_drewN HL.out _⟩⟩
          ·obtain rfl : m = p.length := by omega
           have hmb : decide (((p.length : Nat) : Int) < (p.length : Int)) = false := decide_eq_false (by omega)
           have htj : (lysimeterlaw17_ManifestGrows.scan (b'.take (j + 1)) p (0, 1099511627776, 0)) = lysimeterlaw17_ManifestGrows.inn b'[j] (p.take p.length) (lysimeterlaw17_ManifestGrows.scan (b'.take j) p (0, 1099511627776, 0)) := by
            rw [List.take_succ_eq_append_getElem hlt, lysimeterlaw17_ManifestGrows.scan_snoc, List.take_length]
           have HTJ := Aside0.mk htj
           clear htj
           go_wp2
           go_roundg k3
           case measure => omega
           case rel => exact ⟨j + 1, by omega, by omega, by first | rfl | exact congrArg (Value.int .i64) (by have := CBp.out.2.1; unfold wrap64; omega), by rw [HTJ.out], by rw [HTJ.out], by rw [HTJ.out], HL⟩
        ·obtain rfl : j = b'.length := by omega
         have hjb : decide (((b'.length : Nat) : Int) < (b'.length : Int)) = false := decide_eq_false (by omega)
         have z0 : wr.cell? ⟨g4, 0, none⟩ = some (.slice A' b'.length c') := (blk_cell (Aside0.mk (blk_below B4.out HL.out)).out 0).trans rfl
         have z1 : wr.cell? ⟨g4, 1, none⟩ = some (.int .i64 nx') := (blk_cell (Aside0.mk (blk_below B4.out HL.out)).out 1).trans rfl
         have z2 : wr.cell? ⟨g4, 2, none⟩ = some (.int .i64 lg') := (blk_cell (Aside0.mk (blk_below B4.out HL.out)).out 2).trans rfl
         have z3 : wr.cell? ⟨g4, 3, none⟩ = some (.int .i64 lw') := (blk_cell (Aside0.mk (blk_below B4.out HL.out)).out 3).trans rfl
         have zf0 := blk_frozen (Aside0.mk (blk_below B4.out HL.out)).out 0
         have zf1 := blk_frozen (Aside0.mk (blk_below B4.out HL.out)).out 1
         have zf2 := blk_frozen (Aside0.mk (blk_below B4.out HL.out)).out 2
         have zf3 := blk_frozen (Aside0.mk (blk_below B4.out HL.out)).out 3
         simp only [List.take_length]
         go_upto_region 29 with fail
         have n0_ := Aside0.mk (blk_below B4.out HL.out)
         have n1_ := Aside0.mk (Kd.R_below RB.out HL.out)
         have n2_ := Aside0.mk (below_step HB.out HL.out)
         have n3_ := Aside0.mk (Kd.C_below CP.out HL.out)
         clear CP HB RB B4
         have B4 := n0_
         have RB := n1_
         have HB := n2_
         have CP := n3_
         clear n0_ n1_ n2_ n3_
         clear HL CBp hk hj hjb hlt
         have z0 : wr.cell? ⟨g4, 0, none⟩ = some (.slice A' b'.length c') := (blk_cell B4.out 0).trans rfl
         have z1 : wr.cell? ⟨g4, 1, none⟩ = some (.int .i64 nx') := (blk_cell B4.out 1).trans rfl
         have z2 : wr.cell? ⟨g4, 2, none⟩ = some (.int .i64 lg') := (blk_cell B4.out 2).trans rfl
         have z3 : wr.cell? ⟨g4, 3, none⟩ = some (.int .i64 lw') := (blk_cell B4.out 3).trans rfl
         have zf0 := blk_frozen B4.out 0
         have zf1 := blk_frozen B4.out 1
         have zf2 := blk_frozen B4.out 2
         have zf3 := blk_frozen B4.out 3
         go_upto_region 30 with (first | ((with_reducible refine gate_callee (f := 33) rfl ?_); refine goesL_ (some 129) rfl rfl Try.func33 (by kernel_rfl) rfl #[.agg #[.slice A' b'.length c', .int .i64 nx', .int .i64 lg', .int .i64 lw'], .slice Ap p.length cp, .int .i64 (wrap64 ((lysimeterlaw17_ManifestGrows.scan b' p (0, 1099511627776, 0)).1 + 1)), .int .i64 (lysimeterlaw17_ManifestGrows.scan b' p (0, 1099511627776, 0)).2.1, .int .i64 (lysimeterlaw17_ManifestGrows.scan b' p (0, 1099511627776, 0)).2.2] rfl (by first | (simp; done) | ((try simp only [List.map_toArray, List.map_cons, List.map_nil]); first | done | rfl)) ?_; (with_reducible refine (manifest_Swap.calls k2 _ _ b' nx' lg' lw' _ _ p _ _ _ y1 y2 y3 y4 y5 0 _ ?side1 ?side2 ?side3 ?side4 FSW.out).mono ?_); (case side1 => exact (Kd.R_reads' RB.out).2.2); (case side2 => exact (Kd.R_reads' RB.out).2.1); (case side3 => exact CP.out); (case side4 => exact KP.out); rintro e wr_1 ⟨v_, rfl, hv_, hb_⟩; refine ⟨_, rfl, ?_⟩; have Ry := Aside0.mk (Kd.R_lower hv_ (below_size HB.out)); clear hv_; obtain ⟨Ay, cy, e_⟩ := Kd.R_slice Ry.out; subst e_; have n0_ := Aside0.mk (blk_below B4.out hb_); have n1_ := Aside0.mk (Kd.R_below RB.out hb_); have n2_ := Aside0.mk (below_step HB.out hb_); clear HB RB B4; have B4 := n0_; have RB := n1_; have HB := n2_; clear n0_ n1_ n2_; clear hb_) | ((with_reducible refine gate_dst (N := 15) rfl ?_); refine box_event ?hg (N := 15) ?hd (cs := #[.slice none 0 0, .int .i64 0, .int .i64 0, .int .i64 0]) (t := 50) ?hr ?_; (case hd => rfl); (case hg => rfl); (case hr => first | (go_simp; done) | (go_simp; rfl)); intro g15 hg_ wr_2 bk_ hb_; have Z15 := Aside0.mk bk_; clear bk_; have L15 := Aside0.mk (show wr_1.heap.size ≤ g15 from Nat.le_of_eq hg_.symm); have HZ := Aside0.mk hb_; clear hg_ hb_; have qy0 : wr_2.cell? ⟨g15, 0, none⟩ = some (.slice none 0 0) := (blk_cell Z15.out 0).trans rfl; have qy1 : wr_2.cell? ⟨g15, 1, none⟩ = some (.int .i64 0) := (blk_cell Z15.out 1).trans rfl; have qy2 : wr_2.cell? ⟨g15, 2, none⟩ = some (.int .i64 0) := (blk_cell Z15.out 2).trans rfl; have qy3 : wr_2.cell? ⟨g15, 3, none⟩ = some (.int .i64 0) := (blk_cell Z15.out 3).trans rfl; have qyf0 := blk_frozen Z15.out 0; have qyf1 := blk_frozen Z15.out 1; have qyf2 := blk_frozen Z15.out 2; have qyf3 := blk_frozen Z15.out 3) | go_in)
         refine cwp_world ?_
         intro wr_3 hw_
         have hbb : Below wr_1.heap.size wr_1 wr_3 := by rw [hw_]; exact below_set (below_set (below_set (below_set HZ.out L15.out) L15.out) L15.out) L15.out
         have bz : wr_3.heap[g15]? = some (.cells #[.slice Ay y1.length cy, .int .i64 y2, .int .i64 y3, .int .i64 y4] 50 (0, 0)) := by rw [hw_]; exact blk_put (blk_put (blk_put (blk_put Z15.out 0 _ rfl) 1 _ rfl) 2 _ rfl) 3 _ rfl
         have G15 := Aside0.mk (show w.heap.size ≤ g15 from Nat.le_trans (below_size HB.out) L15.out)
         have NE15 := Aside0.mk (show g4 ≠ g15 by have := blk_lt B4.out; have := L15.out; omega)
         have n0_ := Aside0.mk (blk_below B4.out hbb)
         have n1_ := Aside0.mk (Kd.R_below RB.out hbb)
         have n2_ := Aside0.mk (below_step HB.out hbb)
         have n3_ := Aside0.mk (Kd.R_below Ry.out hbb)
         clear Ry HB RB B4
         have B4 := n0_
         have RB := n1_
         have HB := n2_
         have Ry := n3_
         clear n0_ n1_ n2_ n3_
         clear HZ Z15 hw_ hbb L15
         (try clear z0 z1 z2 z3 zf0 zf1 zf2 zf3)
         clear qy0 qy1 qy2 qy3 qyf0 qyf1 qyf2 qyf3
         have B15 := Aside0.mk bz
         clear bz
         have z0 : wr_3.cell? ⟨g4, 0, none⟩ = some (.slice A' b'.length c') := (blk_cell B4.out 0).trans rfl
         have z1 : wr_3.cell? ⟨g4, 1, none⟩ = some (.int .i64 nx') := (blk_cell B4.out 1).trans rfl
         have z2 : wr_3.cell? ⟨g4, 2, none⟩ = some (.int .i64 lg') := (blk_cell B4.out 2).trans rfl
         have z3 : wr_3.cell? ⟨g4, 3, none⟩ = some (.int .i64 lw') := (blk_cell B4.out 3).trans rfl
         have zf0 := blk_frozen B4.out 0
         have zf1 := blk_frozen B4.out 1
         have zf2 := blk_frozen B4.out 2
         have zf3 := blk_frozen B4.out 3
         have x0 : wr_3.cell? ⟨g15, 0, none⟩ = some (.slice Ay y1.length cy) := (blk_cell B15.out 0).trans rfl
         have x1 : wr_3.cell? ⟨g15, 1, none⟩ = some (.int .i64 y2) := (blk_cell B15.out 1).trans rfl
         have x2 : wr_3.cell? ⟨g15, 2, none⟩ = some (.int .i64 y3) := (blk_cell B15.out 2).trans rfl
         have x3 : wr_3.cell? ⟨g15, 3, none⟩ = some (.int .i64 y4) := (blk_cell B15.out 3).trans rfl
         have xf0 := blk_frozen B15.out 0
         have xf1 := blk_frozen B15.out 1
         have xf2 := blk_frozen B15.out 2
         have xf3 := blk_frozen B15.out 3
         have hY := HY.out
         go_upto_region 32 with (first | ((with_reducible refine gate_callee (f := 36) rfl ?_); (try (refine gate_guard (by rfl) ?_; dsimp only)); refine goesL_ (some 134) rfl rfl Try.func36 (by kernel_rfl) rfl #[.int .i64 0] rfl (by first | (simp; done) | ((try simp only [List.map_toArray, List.map_cons, List.map_nil]); first | done | rfl)) ?_; (with_reducible refine (lysimeterlaw17_num.calls 0 0 _ rfl).mono ?_); rintro e wn ⟨rfl, hb_⟩; refine ⟨_, rfl, ?_⟩; have hbb := hb_.below; clear hb_; have n0_ := Aside0.mk (blk_below B4.out hbb); have n1_ := Aside0.mk (Kd.R_below RB.out hbb); have n2_ := Aside0.mk (below_step HB.out hbb); have n3_ := Aside0.mk (Kd.R_below Ry.out hbb); have n4_ := Aside0.mk (blk_below B15.out hbb); clear B15 Ry HB RB B4; have B4 := n0_; have RB := n1_; have HB := n2_; have Ry := n3_; have B15 := n4_; clear n0_ n1_ n2_ n3_ n4_; clear hbb; clear z0 z1 z2 z3 zf0 zf1 zf2 zf3; clear x0 x1 x2 x3 xf0 xf1 xf2 xf3; have z0 : wn.cell? ⟨g4, 0, none⟩ = some (.slice A' b'.length c') := (blk_cell B4.out 0).trans rfl; have z1 : wn.cell? ⟨g4, 1, none⟩ = some (.int .i64 nx') := (blk_cell B4.out 1).trans rfl; have z2 : wn.cell? ⟨g4, 2, none⟩ = some (.int .i64 lg') := (blk_cell B4.out 2).trans rfl; have z3 : wn.cell? ⟨g4, 3, none⟩ = some (.int .i64 lw') := (blk_cell B4.out 3).trans rfl; have zf0 := blk_frozen B4.out 0; have zf1 := blk_frozen B4.out 1; have zf2 := blk_frozen B4.out 2; have zf3 := blk_frozen B4.out 3; have x0 : wn.cell? ⟨g15, 0, none⟩ = some (.slice Ay y1.length cy) := (blk_cell B15.out 0).trans rfl; have x1 : wn.cell? ⟨g15, 1, none⟩ = some (.int .i64 y2) := (blk_cell B15.out 1).trans rfl; have x2 : wn.cell? ⟨g15, 2, none⟩ = some (.int .i64 y3) := (blk_cell B15.out 2).trans rfl; have x3 : wn.cell? ⟨g15, 3, none⟩ = some (.int .i64 y4) := (blk_cell B15.out 3).trans rfl; have xf0 := blk_frozen B15.out 0; have xf1 := blk_frozen B15.out 1; have xf2 := blk_frozen B15.out 2; have xf3 := blk_frozen B15.out 3) | go_in)
         clear hY
         go_wp2
         have hon := ((((Only.refl g4 wn).set 0 (.slice Ay y1.length cy)).set 1 (.int .i64 y2)).set 2 (.int .i64 y3)).set 3 (.int .i64 y4)
         have b4 := blk_put (blk_put (blk_put (blk_put B4.out 0 (.slice Ay y1.length cy) rfl) 1 (.int .i64 y2) rfl) 2 (.int .i64 y3) rfl) 3 (.int .i64 y4) rfl
         go_roundg k2
         case measure => have := HK2.out; omega
         case rel => exact ⟨y1, y2, y3, y4, Ay, cy, HN2, ⟨by have := HK2.out; omega⟩, ⟨b4⟩, ⟨hon.R Ry.out B4.out (by decide)⟩, ⟨below_set (below_set (below_set (below_set HB.out G4.out) G4.out) G4.out) G4.out⟩⟩
   ·rw [if_neg hi] at H
    simp only [Option.some.injEq, Prod.mk.injEq] at H
    obtain ⟨rfl, rfl, rfl, rfl⟩ := H
    have hib : decide (i < a0) = false := decide_eq_false hi
    obtain ⟨wd, rfl⟩ : ∃ wd, wd = wr := ⟨wr, rfl⟩
    have CB := Aside0.mk (Kd.R_reads' RB.out).2.2
    go_wp2
    go_loopg [18, 19] 21 (fun kq v18 v19 w' => ∃ (left lv : Nat), left ≤ 300 ∧ kq + lv = 21 ∧ v19 = .int .i64 lv ∧ v18 = .int .i64 left ∧ Aside0 (lysimeterlaw17_ManifestGrows.digs kq (lv : Int) left b = true) ∧ Aside0 (Below wd.heap.size wd w'))
    case atStart => exact ⟨a0.toNat, 0, by have := BN.out; omega, rfl, rfl, congrArg (Value.int .i64) (Int.toNat_of_nonneg BN.out.1).symm, FD, ⟨Below.refl _ _⟩⟩
    case round =>
     obtain ⟨left, lv, hleft, hkl, rfl, rfl, HD, HL⟩ := hrel
     cases gk with
     | zero =>
      have hlb : decide ((lv : Int) ≤ 20) = false := decide_eq_false (by omega)
      go_wp2
      go_ret
      exact ⟨rfl, below_step HB.out HL.out⟩
     | succ k1 =>
      have hd := HD.out
      clear HD
      simp only [lysimeterlaw17_ManifestGrows.digs, Bool.and_eq_true, beq_iff_eq] at hd
      have HC := Aside0.mk hd.1
      have HD := Aside0.mk hd.2
      clear hd
      have hlb : decide ((lv : Int) ≤ 20) = true := decide_eq_true (by omega)
      go_wp2
      go_loopg [20, 21] b.length (fun kq v20 v21 w' => ∃ (j : Nat), j ≤ b.length ∧ kq + j = b.length ∧ v21 = .int .i64 j ∧ v20 = .int .i64 (lysimeterlaw17_ManifestGrows.cnt (lv : Int) (b.take j) : Nat) ∧ Aside0 (Below wd.heap.size wd w'))
      case atStart => exact ⟨0, Nat.zero_le _, by omega, rfl, rfl, HL⟩
      case round =>
       clear HL
       obtain ⟨j, hj, hk, rfl, rfl, HL⟩ := hrel
       have z0 : wr.cell? ⟨g4, 0, none⟩ = some (.slice A b.length c) := (blk_cell (Aside0.mk (blk_below B4.out HL.out)).out 0).trans rfl
       have z1 : wr.cell? ⟨g4, 1, none⟩ = some (.int .i64 nx) := (blk_cell (Aside0.mk (blk_below B4.out HL.out)).out 1).trans rfl
       have z2 : wr.cell? ⟨g4, 2, none⟩ = some (.int .i64 lg) := (blk_cell (Aside0.mk (blk_below B4.out HL.out)).out 2).trans rfl
       have z3 : wr.cell? ⟨g4, 3, none⟩ = some (.int .i64 lw) := (blk_cell (Aside0.mk (blk_below B4.out HL.out)).out 3).trans rfl
       have zf0 := blk_frozen (Aside0.mk (blk_below B4.out HL.out)).out 0
       have zf1 := blk_frozen (Aside0.mk (blk_below B4.out HL.out)).out 1
       have zf2 := blk_frozen (Aside0.mk (blk_below B4.out HL.out)).out 2
       have zf3 := blk_frozen (Aside0.mk (blk_below B4.out HL.out)).out 3
       by_cases hlt : j < b.length
       ·obtain ⟨k3, rfl⟩ : ∃ k3, gk = k3 + 1 := ⟨gk - 1, by omega⟩
        have hjb : decide ((j : Int) < (b.length : Int)) = true := decide_eq_true (by omega)
        have hjc : decide (j < b.length) = true := decide_eq_true hlt
        obtain ⟨ad, e, q0, q1, q2, q3⟩ := at_T52 (Kd.C_below CB.out HL.out) (j : Int) (by omega) (by omega)
        cases e
        rw [Int.toNat_natCast] at q0 q1 q2 q3
        have hrb : rd_T52 b (j : Int) = b[j] := by unfold rd_T52; rw [Int.toNat_natCast, List.getD_eq_getElem?_getD, List.getElem?_eq_getElem hlt]; rfl
        rw [hrb] at q0 q1 q2 q3
        have t0 : (0 ≤ (j : Int)) = True := eq_true (by omega)
        have t1 : ((j : Int) < (b.length : Int)) = True := eq_true (by omega)
        have t2 : (j < b.length) = True := eq_true hlt
        have hle := lysimeterlaw17_ManifestGrows.cnt_le (lv : Int) (b.take j)
        rw [List.length_take] at hle
        have hbl := CB.out.2.1
        have HS := Aside0.mk (lysimeterlaw17_ManifestGrows.cnt_snoc (lv : Int) (b.take j) b[j])
        have HT := Aside0.mk (List.take_succ_eq_append_getElem hlt)
        by_cases hE : b[j].f1 = (lv : Int)
        ·have hEb : (b[j].f1 == (lv : Int)) = true := beq_iff_eq.2 hE
         have HE := Aside0.mk hE
         clear hE
         go_wp2
         go_roundg k3
         case measure => omega
         case rel => exact ⟨j + 1, by omega, by omega, by first | rfl | exact congrArg (Value.int .i64) (by unfold wrap64; omega), by rw [HT.out, HS.out, if_pos HE.out]; first | rfl | exact congrArg (Value.int .i64) (by unfold wrap64; omega), HL⟩
        ·have hEb : (b[j].f1 == (lv : Int)) = false := beq_eq_false_iff_ne.2 hE
         have HE := Aside0.mk hE
         clear hE
         go_wp2
         go_roundg k3
         case measure => omega
         case rel => exact ⟨j + 1, by omega, by omega, by first | rfl | exact congrArg (Value.int .i64) (by unfold wrap64; omega), by rw [HT.out, HS.out, if_neg HE.out]; rfl, HL⟩
       ·obtain rfl : j = b.length := by omega
        have hjb : decide (((b.length : Nat) : Int) < (b.length : Int)) = false := decide_eq_false (by omega)
        simp only [List.take_length, HC.out]
        have r0 : ((left : Nat) : Int).tmod 4 = ((left % 4 : Nat) : Int) := rfl
        have r1 : ((left : Nat) : Int).tdiv 4 = ((left / 4 : Nat) : Int) := rfl
        go_wp2
        go_roundg k1
        case measure => omega
        case rel => exact ⟨left / 4, lv + 1, by omega, by omega, by first | rfl | exact congrArg (Value.int .i64) (by unfold wrap64; omega), by first | rfl | exact congrArg (Value.int .i64) (by unfold wrap64; omega), HD, HL⟩
end

/-- The one pure statement of lysimeterlaw17_ManifestGrows. -/
def lysimeterlaw17_ManifestGrows.Pure : Prop := ∀ (a0 : Int), (Lit.int .i64 a0).wf = true → ∃ k, lysimeterlaw17_ManifestGrows.f k a0 = some true
theorem lysimeterlaw17_ManifestGrows.walk (P : lysimeterlaw17_ManifestGrows.Pure) (a0 : Int) (w : World) (w0 : (Lit.int .i64 a0).wf = true) :
  Calls Try.prog 9 #[.int .i64 a0] w fun e w' => e = .returned (.bool true) ∧ Below w.heap.size w w' := by
 obtain ⟨k, h⟩ := P a0 w0
 refine (lysimeterlaw17_ManifestGrows.calls k a0 true w rfl h).mono ?_
 rintro e w' ⟨rfl, hd⟩
 exact ⟨rfl, hd⟩

end Go.Proofs.Ytjilnpbgclnecab.PManifestGrows
