/- Written by a program of this session out of the translation: for Go functions Lean functions of the same answers, and the proof that the calls come to these answers. -/
import Derived.Test.YtjilnpbgclnecabPManifestTurnsx0
import Derived.Test.YtjilnpbgclnecabPManifestTurnsx1
import Derived.Test.YtjilnpbgclnecabPManifestTurnsx4
import Derived.Test.YtjilnpbgclnecabPManifestTurnsx6
import Derived.Test.YtjilnpbgclnecabPManifestTurnsx7
import Derived.Test.YtjilnpbgclnecabPManifestTurnsx8
import Derived.Test.YtjilnpbgclnecabPManifestTurnsx9
namespace Go.Proofs.Ytjilnpbgclnecab.PManifestTurns
open Go.RowKit Go.Proofs.YtjilnpbgclnecabW.PrintWords Go.Proofs.YtjilnpbgclnecabW.PrintLast Go.Proofs.YtjilnpbgclnecabW.PrintMore Go.Proofs.Ytjilnpbgclnecab.XB
attribute [local go_sem] sg_u8 sg_u16 sg_u32 sg_u64 mx_u8 mx_u16 mx_u32 mx_u64
attribute [local go_sem] max2_int min2_int max_two min_two max_three min_three max_four min_four   -- for this text's walks alone
set_option linter.unusedVariables false
set_option linter.unusedSimpArgs false

/-! ### lysimeterlaw17_ManifestTurns: function 8 -/
section
open Go.Proofs.Ytjilnpbgclnecab.XH
attribute [local go_sem high] eqA52
def lysimeterlaw17_ManifestTurns.eq1 (x y : S52) : Bool := x.f0 == y.f0 && (x.f1 == y.f1 && (x.f2 == y.f2 && x.f3 == y.f3))
theorem lysimeterlaw17_ManifestTurns.eq1_eq {x y : S52} (h : lysimeterlaw17_ManifestTurns.eq1 x y = true) : x = y := by
  cases x; cases y
  simp only [lysimeterlaw17_ManifestTurns.eq1, Bool.and_eq_true, beq_iff_eq] at h
  obtain ⟨h0, h1, h2, h3⟩ := h
  subst h0 h1 h2 h3
  rfl
theorem lysimeterlaw17_ManifestTurns.eq1_refl (x : S52) : lysimeterlaw17_ManifestTurns.eq1 x x = true := by simp [lysimeterlaw17_ManifestTurns.eq1]
def lysimeterlaw17_ManifestTurns.eqs : List S52 → List S52 → Bool
  | [], [] => true
  | x :: xs, y :: ys => lysimeterlaw17_ManifestTurns.eq1 x y && lysimeterlaw17_ManifestTurns.eqs xs ys
  | _, _ => false
theorem lysimeterlaw17_ManifestTurns.eqs_eq : ∀ {l m : List S52}, lysimeterlaw17_ManifestTurns.eqs l m = true → l = m
  | [], [], _ => rfl
  | x :: xs, y :: ys, h => by
    simp only [lysimeterlaw17_ManifestTurns.eqs, Bool.and_eq_true] at h
    rw [lysimeterlaw17_ManifestTurns.eq1_eq h.1, lysimeterlaw17_ManifestTurns.eqs_eq h.2]
  | [], _ :: _, h => by cases h
  | _ :: _, [], h => by cases h
theorem lysimeterlaw17_ManifestTurns.eqs_refl : ∀ l : List S52, lysimeterlaw17_ManifestTurns.eqs l l = true
  | [] => rfl
  | x :: xs => by simp only [lysimeterlaw17_ManifestTurns.eqs, lysimeterlaw17_ManifestTurns.eq1_refl, lysimeterlaw17_ManifestTurns.eqs_refl xs, Bool.and_true]
def lysimeterlaw17_ManifestTurns.f (k : Nat) (l0_0 : List (S52)) (a0_1 a0_2 a0_3 : Int) (l1 : List Int) (a2 a3 a4 : Int) : Option Bool :=
  (lysimeterlaw17_alive.f k).bind fun al =>
    if al = true then
     if 400 < l0_0.length ∨ 400 < l1.length then some true else
      (manifest_Add.f k l0_0 a0_1 a0_2 a0_3 a2 a3 a4).bind fun a => (lysimeterref16_Add.f k l0_0 a0_1 a0_2 a0_3 a2 a3 a4).bind fun b =>
      (manifest_Swap.f k l0_0 a0_1 a0_2 a0_3 l1 a2 a3 a4).bind fun c => (lysimeterref16_Swap.f k l0_0 a0_1 a0_2 a0_3 l1 a2 a3 a4).bind fun d =>
      (lysimeterref16_SameManifest.f k l0_0 a0_1 a0_2 a0_3 l0_0 a0_1 a0_2 a0_3).bind fun s1 =>
      (lysimeterref16_SameManifest.f k a.1 a.2.1 a.2.2.1 a.2.2.2.1 b.1 b.2.1 b.2.2.1 b.2.2.2.1).bind fun s2 =>
      (lysimeterref16_SameManifest.f k c.1 c.2.1 c.2.2.1 c.2.2.2.1 d.1 d.2.1 d.2.2.1 d.2.2.2.1).bind fun s3 =>
        if (s1 && s2 && s3 && a.2.2.2.2.1 == b.2.2.2.2.1 && a.2.2.2.2.2 == b.2.2.2.2.2 && c.2.2.2.2.1 == d.2.2.2.2.1 && c.2.2.2.2.2 == d.2.2.2.2.2 && lysimeterlaw17_ManifestTurns.eqs a.1 b.1) = true then some true else none
    else some false
theorem lysimeterlaw17_ManifestTurns.mono : ∀ a0 a1 a2 a3 a4 a5 a6 a7 k, LeO (lysimeterlaw17_ManifestTurns.f k a0 a1 a2 a3 a4 a5 a6 a7) (lysimeterlaw17_ManifestTurns.f (k + 1) a0 a1 a2 a3 a4 a5 a6 a7) := by
  intro a0 a1 a2 a3 a4 a5 a6 a7 k
  unfold lysimeterlaw17_ManifestTurns.f
  exact LeO.bind (lysimeterlaw17_alive.mono _) fun al => LeO.ite (LeO.ite (LeO.refl _) (LeO.bind (manifest_Add.mono _ _ _ _ _ _ _ _) fun a => LeO.bind (lysimeterref16_Add.mono _ _ _ _ _ _ _ _) fun b => LeO.bind (manifest_Swap.mono _ _ _ _ _ _ _ _ _) fun c => LeO.bind (lysimeterref16_Swap.mono _ _ _ _ _ _ _ _ _) fun d => LeO.bind (lysimeterref16_SameManifest.mono _ _ _ _ _ _ _ _ _) fun s1 => LeO.bind (lysimeterref16_SameManifest.mono _ _ _ _ _ _ _ _ _) fun s2 => LeO.bind (lysimeterref16_SameManifest.mono _ _ _ _ _ _ _ _ _) fun s3 => LeO.refl _)) (LeO.refl _)
set_option maxHeartbeats 8000000 in
set_option maxRecDepth 100000 in
theorem lysimeterlaw17_ManifestTurns.calls (k : Nat) (A0_0 : Option Addr) (c0_0 : Nat) (l0_0 : List (S52)) (a0_1 : Int) (a0_2 : Int) (a0_3 : Int) (A1 : Option Addr) (c1 : Nat) (l1 : List Int) (a2 : Int) (a3 : Int) (a4 : Int) (r : Bool) (w : World) (hr0_0 : Kd.C k52 w A0_0 l0_0.length l0_0) (hc0_0 : l0_0.length ≤ c0_0) (hr1 : Kd.C (Kd.int .i64) w A1 l1.length l1) (hc1 : l1.length ≤ c1) (hr_ : r = true) (h : lysimeterlaw17_ManifestTurns.f k l0_0 a0_1 a0_2 a0_3 l1 a2 a3 a4 = some r) :
    Calls Try.prog 8 #[.agg #[.slice A0_0 l0_0.length c0_0, .int .i64 a0_1, .int .i64 a0_2, .int .i64 a0_3], .slice A1 l1.length c1, .int .i64 a2, .int .i64 a3, .int .i64 a4] w fun e w' => e = .returned (.bool r) ∧ Below w.heap.size w w' := by
  subst hr_
  have hu50 := Try.underlying50
  have hu52 := Try.underlying52
  have CM := Aside0.mk hr0_0
  have HC0_0 := Aside0.mk hc0_0
  have CI := Aside0.mk hr1
  have HC1 := Aside0.mk hc1
  clear hr0_0 hc0_0 hr1 hc1
  have HB := Aside0.mk (Below.refl w.heap.size w)
  unfold lysimeterlaw17_ManifestTurns.f at h
  obtain ⟨al, h1, h⟩ := Option.bind_eq_some_iff.mp h
  have AL := Aside0.mk h1
  clear h1
  by_cases hal : al = true
  · subst hal
    rw [if_pos rfl] at h
    by_cases hlong : 400 < l0_0.length ∨ 400 < l1.length
    · clear h
      go_enter Try.func8, Try.ntmps8
      by_cases h4 : 400 < l0_0.length
      · have h4b : decide ((400 : Int) < (l0_0.length : Int)) = true := decide_eq_true (by omega)
        have h4c : decide (400 < l0_0.length) = true := decide_eq_true (by omega)
        clear h4 hlong
        go_wp2_with (first | ((with_reducible refine gate_dst (N := 5) rfl ?_); refine box_event ?hg (N := 5) ?hd (cs := #[.slice A0_0 l0_0.length c0_0, .int .i64 a0_1, .int .i64 a0_2, .int .i64 a0_3]) (t := 50) ?hr ?_; (case hd => rfl); (case hg => rfl); (case hr => first | (go_simp; done) | (go_simp; rfl)); intro g5 hg_ w1 bk_ hb_; have B5 := Aside0.mk bk_; clear bk_; have G5 := Aside0.mk (show w.heap.size ≤ g5 by rw [hg_]; exact below_size HB.out); have n0_ := Aside0.mk (below_step HB.out hb_); clear HB; have HB := n0_; clear n0_; clear hg_ hb_; have z0 : w1.cell? ⟨g5, 0, none⟩ = some (.slice A0_0 l0_0.length c0_0) := (blk_cell B5.out 0).trans rfl; have z1 : w1.cell? ⟨g5, 1, none⟩ = some (.int .i64 a0_1) := (blk_cell B5.out 1).trans rfl; have z2 : w1.cell? ⟨g5, 2, none⟩ = some (.int .i64 a0_2) := (blk_cell B5.out 2).trans rfl; have z3 : w1.cell? ⟨g5, 3, none⟩ = some (.int .i64 a0_3) := (blk_cell B5.out 3).trans rfl; have zf0 := blk_frozen B5.out 0; have zf1 := blk_frozen B5.out 1; have zf2 := blk_frozen B5.out 2; have zf3 := blk_frozen B5.out 3) | ((with_reducible refine gate_callee (f := 30) rfl ?_); refine goesL_ (some 27) rfl rfl Try.func30 (by kernel_rfl) rfl #[] rfl (by first | (simp; done) | ((try simp only [List.map_toArray, List.map_cons, List.map_nil]); first | done | rfl)) ?_; (with_reducible refine (lysimeterlaw17_alive.calls k true _ AL.out).mono ?_); rintro e w2 ⟨rfl, hb_⟩; refine ⟨_, rfl, ?_⟩; clear z0 z1 z2 z3 zf0 zf1 zf2 zf3; have n0_ := Aside0.mk (below_step HB.out hb_); have n1_ := Aside0.mk (blk_below B5.out hb_); clear B5 HB; have HB := n0_; have B5 := n1_; clear n0_ n1_; clear hb_; have z0 : w2.cell? ⟨g5, 0, none⟩ = some (.slice A0_0 l0_0.length c0_0) := (blk_cell B5.out 0).trans rfl; have z1 : w2.cell? ⟨g5, 1, none⟩ = some (.int .i64 a0_1) := (blk_cell B5.out 1).trans rfl; have z2 : w2.cell? ⟨g5, 2, none⟩ = some (.int .i64 a0_2) := (blk_cell B5.out 2).trans rfl; have z3 : w2.cell? ⟨g5, 3, none⟩ = some (.int .i64 a0_3) := (blk_cell B5.out 3).trans rfl; have zf0 := blk_frozen B5.out 0; have zf1 := blk_frozen B5.out 1; have zf2 := blk_frozen B5.out 2; have zf3 := blk_frozen B5.out 3) | go_in)
        go_ret
        exact ⟨rfl, HB.out⟩
      · have h4b : decide ((400 : Int) < (l0_0.length : Int)) = false := decide_eq_false (by omega)
        have h4c : decide (400 < l0_0.length) = false := decide_eq_false (by omega)
        have h5b : decide ((400 : Int) < (l1.length : Int)) = true := decide_eq_true (by omega)
        have h5c : decide (400 < l1.length) = true := decide_eq_true (by omega)
        clear h4 hlong
        go_wp2_with (first | ((with_reducible refine gate_dst (N := 5) rfl ?_); refine box_event ?hg (N := 5) ?hd (cs := #[.slice A0_0 l0_0.length c0_0, .int .i64 a0_1, .int .i64 a0_2, .int .i64 a0_3]) (t := 50) ?hr ?_; (case hd => rfl); (case hg => rfl); (case hr => first | (go_simp; done) | (go_simp; rfl)); intro g5 hg_ w1 bk_ hb_; have B5 := Aside0.mk bk_; clear bk_; have G5 := Aside0.mk (show w.heap.size ≤ g5 by rw [hg_]; exact below_size HB.out); have n0_ := Aside0.mk (below_step HB.out hb_); clear HB; have HB := n0_; clear n0_; clear hg_ hb_; have z0 : w1.cell? ⟨g5, 0, none⟩ = some (.slice A0_0 l0_0.length c0_0) := (blk_cell B5.out 0).trans rfl; have z1 : w1.cell? ⟨g5, 1, none⟩ = some (.int .i64 a0_1) := (blk_cell B5.out 1).trans rfl; have z2 : w1.cell? ⟨g5, 2, none⟩ = some (.int .i64 a0_2) := (blk_cell B5.out 2).trans rfl; have z3 : w1.cell? ⟨g5, 3, none⟩ = some (.int .i64 a0_3) := (blk_cell B5.out 3).trans rfl; have zf0 := blk_frozen B5.out 0; have zf1 := blk_frozen B5.out 1; have zf2 := blk_frozen B5.out 2; have zf3 := blk_frozen B5.out 3) | ((with_reducible refine gate_callee (f := 30) rfl ?_); refine goesL_ (some 27) rfl rfl Try.func30 (by kernel_rfl) rfl #[] rfl (by first | (simp; done) | ((try simp only [List.map_toArray, List.map_cons, List.map_nil]); first | done | rfl)) ?_; (with_reducible refine (lysimeterlaw17_alive.calls k true _ AL.out).mono ?_); rintro e w2 ⟨rfl, hb_⟩; refine ⟨_, rfl, ?_⟩; clear z0 z1 z2 z3 zf0 zf1 zf2 zf3; have n0_ := Aside0.mk (below_step HB.out hb_); have n1_ := Aside0.mk (blk_below B5.out hb_); clear B5 HB; have HB := n0_; have B5 := n1_; clear n0_ n1_; clear hb_; have z0 : w2.cell? ⟨g5, 0, none⟩ = some (.slice A0_0 l0_0.length c0_0) := (blk_cell B5.out 0).trans rfl; have z1 : w2.cell? ⟨g5, 1, none⟩ = some (.int .i64 a0_1) := (blk_cell B5.out 1).trans rfl; have z2 : w2.cell? ⟨g5, 2, none⟩ = some (.int .i64 a0_2) := (blk_cell B5.out 2).trans rfl; have z3 : w2.cell? ⟨g5, 3, none⟩ = some (.int .i64 a0_3) := (blk_cell B5.out 3).trans rfl; have zf0 := blk_frozen B5.out 0; have zf1 := blk_frozen B5.out 1; have zf2 := blk_frozen B5.out 2; have zf3 := blk_frozen B5.out 3) | go_in)
        go_ret
        exact ⟨rfl, HB.out⟩
    · rw [if_neg hlong] at h
      have h4b : decide ((400 : Int) < (l0_0.length : Int)) = false := decide_eq_false (by omega)
      have h4c : decide (400 < l0_0.length) = false := decide_eq_false (by omega)
      have h5b : decide ((400 : Int) < (l1.length : Int)) = false := decide_eq_false (by omega)
      have h5c : decide (400 < l1.length) = false := decide_eq_false (by omega)
      have H4 := Aside0.mk hlong
      clear hlong
      obtain ⟨⟨ra1, ra2, ra3, ra4, ra5, ra6⟩, hA, h⟩ := Option.bind_eq_some_iff.mp h
      obtain ⟨⟨rb1, rb2, rb3, rb4, rb5, rb6⟩, hB, h⟩ := Option.bind_eq_some_iff.mp h
      obtain ⟨⟨rc1, rc2, rc3, rc4, rc5, rc6⟩, hC, h⟩ := Option.bind_eq_some_iff.mp h
      obtain ⟨⟨rd1, rd2, rd3, rd4, rd5, rd6⟩, hD, h⟩ := Option.bind_eq_some_iff.mp h
      obtain ⟨s1, hS1, h⟩ := Option.bind_eq_some_iff.mp h
      obtain ⟨s2, hS2, h⟩ := Option.bind_eq_some_iff.mp h
      obtain ⟨s3, hS3, h⟩ := Option.bind_eq_some_iff.mp h
      dsimp only at h hS2 hS3
      by_cases hc : (s1 && s2 && s3 && ra5 == rb5 && ra6 == rb6 && rc5 == rd5 && rc6 == rd6 && lysimeterlaw17_ManifestTurns.eqs ra1 rb1) = true
      case neg => rw [if_neg hc] at h; cases h
      clear h
      simp only [Bool.and_eq_true, beq_iff_eq] at hc
      obtain ⟨⟨⟨⟨⟨⟨⟨rfl, rfl⟩, rfl⟩, rfl⟩, rfl⟩, rfl⟩, rfl⟩, heq⟩ := hc
      obtain rfl := lysimeterlaw17_ManifestTurns.eqs_eq heq
      clear heq
      have FA := Aside0.mk hA
      have FB := Aside0.mk hB
      have FC := Aside0.mk hC
      have FD := Aside0.mk hD
      have FS1 := Aside0.mk hS1
      have FS2 := Aside0.mk hS2
      have FS3 := Aside0.mk hS3
      clear hA hB hC hD hS1 hS2 hS3
      go_enter Try.func8, Try.ntmps8
      go_wp2_with (first | ((with_reducible refine gate_dst (N := 5) rfl ?_); refine box_event ?hg (N := 5) ?hd (cs := #[.slice A0_0 l0_0.length c0_0, .int .i64 a0_1, .int .i64 a0_2, .int .i64 a0_3]) (t := 50) ?hr ?_; (case hd => rfl); (case hg => rfl); (case hr => first | (go_simp; done) | (go_simp; rfl)); intro g5 hg_ w1 bk_ hb_; have B5 := Aside0.mk bk_; clear bk_; have G5 := Aside0.mk (show w.heap.size ≤ g5 by rw [hg_]; exact below_size HB.out); have n0_ := Aside0.mk (below_step HB.out hb_); clear HB; have HB := n0_; clear n0_; clear hg_ hb_; have z0 : w1.cell? ⟨g5, 0, none⟩ = some (.slice A0_0 l0_0.length c0_0) := (blk_cell B5.out 0).trans rfl; have z1 : w1.cell? ⟨g5, 1, none⟩ = some (.int .i64 a0_1) := (blk_cell B5.out 1).trans rfl; have z2 : w1.cell? ⟨g5, 2, none⟩ = some (.int .i64 a0_2) := (blk_cell B5.out 2).trans rfl; have z3 : w1.cell? ⟨g5, 3, none⟩ = some (.int .i64 a0_3) := (blk_cell B5.out 3).trans rfl; have zf0 := blk_frozen B5.out 0; have zf1 := blk_frozen B5.out 1; have zf2 := blk_frozen B5.out 2; have zf3 := blk_frozen B5.out 3) | ((with_reducible refine gate_callee (f := 30) rfl ?_); refine goesL_ (some 27) rfl rfl Try.func30 (by kernel_rfl) rfl #[] rfl (by first | (simp; done) | ((try simp only [List.map_toArray, List.map_cons, List.map_nil]); first | done | rfl)) ?_; (with_reducible refine (lysimeterlaw17_alive.calls k true _ AL.out).mono ?_); rintro e w2 ⟨rfl, hb_⟩; refine ⟨_, rfl, ?_⟩; clear z0 z1 z2 z3 zf0 zf1 zf2 zf3; have n0_ := Aside0.mk (below_step HB.out hb_); have n1_ := Aside0.mk (blk_below B5.out hb_); clear B5 HB; have HB := n0_; have B5 := n1_; clear n0_ n1_; clear hb_; have z0 : w2.cell? ⟨g5, 0, none⟩ = some (.slice A0_0 l0_0.length c0_0) := (blk_cell B5.out 0).trans rfl; have z1 : w2.cell? ⟨g5, 1, none⟩ = some (.int .i64 a0_1) := (blk_cell B5.out 1).trans rfl; have z2 : w2.cell? ⟨g5, 2, none⟩ = some (.int .i64 a0_2) := (blk_cell B5.out 2).trans rfl; have z3 : w2.cell? ⟨g5, 3, none⟩ = some (.int .i64 a0_3) := (blk_cell B5.out 3).trans rfl; have zf0 := blk_frozen B5.out 0; have zf1 := blk_frozen B5.out 1; have zf2 := blk_frozen B5.out 2; have zf3 := blk_frozen B5.out 3) | ((with_reducible refine gate_dst (N := 12) rfl ?_); refine box_event ?hg (N := 12) ?hd (cs := #[.slice none 0 0, .int .i64 0, .int .i64 0, .int .i64 0]) (t := 50) ?hr ?_; (case hd => rfl); (case hg => rfl); (case hr => first | (go_simp; done) | (go_simp; rfl)); intro g12 hg_ w3 bk_ hb_; have B12 := Aside0.mk bk_; clear bk_; have G12 := Aside0.mk (show w.heap.size ≤ g12 by rw [hg_]; exact below_size HB.out); have L12 := Aside0.mk (show w2.heap.size ≤ g12 from Nat.le_of_eq hg_.symm); have HB3 := Aside0.mk hb_; clear hg_ hb_; have y0 : w3.cell? ⟨g12, 0, none⟩ = some (.slice none 0 0) := (blk_cell B12.out 0).trans rfl; have y1 : w3.cell? ⟨g12, 1, none⟩ = some (.int .i64 0) := (blk_cell B12.out 1).trans rfl; have y2 : w3.cell? ⟨g12, 2, none⟩ = some (.int .i64 0) := (blk_cell B12.out 2).trans rfl; have y3 : w3.cell? ⟨g12, 3, none⟩ = some (.int .i64 0) := (blk_cell B12.out 3).trans rfl; have yf0 := blk_frozen B12.out 0; have yf1 := blk_frozen B12.out 1; have yf2 := blk_frozen B12.out 2; have yf3 := blk_frozen B12.out 3) | go_in)
      refine cwp_world ?_
      intro w4 hw4
      have hbb : Below w2.heap.size w2 w4 := by rw [hw4]; exact below_set (below_set (below_set (below_set HB3.out L12.out) L12.out) L12.out) L12.out
      have b12 : w4.heap[g12]? = some (.cells #[.slice A0_0 l0_0.length c0_0, .int .i64 a0_1, .int .i64 a0_2, .int .i64 a0_3] 50 (0, 0)) := by rw [hw4]; exact blk_put (blk_put (blk_put (blk_put B12.out 0 _ rfl) 1 _ rfl) 2 _ rfl) 3 _ rfl
      have N512 := Aside0.mk (show g5 ≠ g12 by have := blk_lt B5.out; have := L12.out; omega)
      have n0_ := Aside0.mk (below_step HB.out hbb)
      have n1_ := Aside0.mk (blk_below B5.out hbb)
      clear B5 HB
      have HB := n0_
      have B5 := n1_
      clear n0_ n1_
      clear HB3 B12 hw4 hbb L12
      clear z0 z1 z2 z3 zf0 zf1 zf2 zf3 y0 y1 y2 y3 yf0 yf1 yf2 yf3
      have B12 := Aside0.mk b12
      clear b12
      go_cut [] (fun w' => ∃ (gy cy : Nat), Aside0 (w'.heap[g12]? = some (.cells #[.slice (some ⟨gy, 0, none⟩) l0_0.length cy, .int .i64 a0_1, .int .i64 a0_2, .int .i64 a0_3] 50 (0, 0))) ∧ Aside0 (Kd.C k52 w' (some ⟨gy, 0, none⟩) l0_0.length l0_0) ∧ Aside0 (l0_0.length + 1 ≤ cy) ∧ Aside0 (w'.cell? ⟨gy, l0_0.length * 4, none⟩ = some (.int .i64 (-71))) ∧ Aside0 (w'.heap[g5]? = some (.cells #[.slice A0_0 l0_0.length c0_0, .int .i64 a0_1, .int .i64 a0_2, .int .i64 a0_3] 50 (0, 0))) ∧ Aside0 (Below w.heap.size w w'))
      case first =>
        have hbd : Below w4.heap.size w4 w4.drew := (Below.refl _ _).drew
        have n0_ := Aside0.mk (below_step HB.out hbd)
        have n1_ := Aside0.mk (blk_below B5.out hbd)
        have n2_ := Aside0.mk (blk_below B12.out hbd)
        clear B12 B5 HB
        have HB := n0_
        have B5 := n1_
        have B12 := n2_
        clear n0_ n1_ n2_
        clear hbd
        refine start_ (n := 12) (S := fun w' => w'.cell? ⟨g5, 0, none⟩ = some (.slice A0_0 l0_0.length c0_0)) (ds := []) #[false, false, false, false, false, false, false, false, false, false, false, false] (by kernel_rfl) rfl rfl ((blk_cell B5.out 0).trans rfl) (fun hHeld => ?_)
        generalize w4.drew = w5 at HB B5 B12 hHeld ⊢
        refine pure_ (i := 0) (N := (some 43)) (v := ?_) (a' := ?_) #[true, false, false, false, false, false, false, false, false, false, false, false] rfl rfl (by kernel_rfl) (fun _ _ _ h => h) (Or.inl ⟨by rfl, ?_⟩) ?_ ?_
        rotate_left
        · intro w'
          go_simp
          with_reducible rfl
        rotate_left
        · simp only [Act.put, List.setIfInBounds_toArray, List.set_cons_zero, List.set_cons_succ, i64_w, i32_w]
          rfl
        refine take_ (i := 1) (N := (some 44)) (v := ?_) (a' := ?_) #[true, true, false, false, false, false, false, false, false, false, false, false] rfl rfl (by kernel_rfl) (fun _ _ _ h => h) (Or.inl ⟨by rfl, ?_⟩) hHeld ?_ ?_
        rotate_left
        · rintro w' s0
          go_simp
          with_reducible rfl
        rotate_left
        · simp only [Act.put, List.setIfInBounds_toArray, List.set_cons_zero, List.set_cons_succ, i64_w, i32_w]
          rfl
        refine pure_ (i := 3) (N := (some 46)) (v := ?_) (a' := ?_) #[true, true, false, true, false, false, false, false, false, false, false, false] rfl rfl (by kernel_rfl) (fun _ _ _ h => h) (Or.inl ⟨by rfl, ?_⟩) ?_ ?_
        rotate_left
        · intro w'
          go_simp
          with_reducible rfl
        rotate_left
        · simp only [Act.put, List.setIfInBounds_toArray, List.set_cons_zero, List.set_cons_succ, i64_w, i32_w]
          rfl
        refine pure_ (i := 6) (N := (some 49)) (v := ?_) (a' := ?_) #[true, true, false, true, false, false, true, false, false, false, false, false] rfl rfl (by kernel_rfl) (fun _ _ _ h => h) (Or.inl ⟨by rfl, ?_⟩) ?_ ?_
        rotate_left
        · intro w'
          go_simp
          with_reducible rfl
        rotate_left
        · simp only [Act.put, List.setIfInBounds_toArray, List.set_cons_zero, List.set_cons_succ, i64_w, i32_w]
          rfl
        refine take_ (i := 7) (N := (some 50)) (v := ?_) (a' := ?_) #[true, true, false, true, false, false, true, true, false, false, false, false] rfl rfl (by kernel_rfl) (fun _ _ _ h => h) (Or.inl ⟨by rfl, ?_⟩) hHeld ?_ ?_
        rotate_left
        · rintro w' s0
          go_simp
          with_reducible rfl
        rotate_left
        · simp only [Act.put, List.setIfInBounds_toArray, List.set_cons_zero, List.set_cons_succ, i64_w, i32_w]
          rfl
        refine pure_ (i := 8) (N := (some 51)) (v := ?_) (a' := ?_) #[true, true, false, true, false, false, true, true, true, false, false, false] rfl rfl (by kernel_rfl) (fun _ _ _ h => h) (Or.inl ⟨by rfl, ?_⟩) ?_ ?_
        rotate_left
        · intro w'
          go_simp
          with_reducible rfl
        rotate_left
        · simp only [Act.put, List.setIfInBounds_toArray, List.set_cons_zero, List.set_cons_succ, i64_w, i32_w]
          rfl
        have D400 : l0_0.length ≤ 400 := Nat.le_of_not_lt (fun z => H4.out (.inl z))
        refine join_ (σ := Value × Value) 4 #[true, true, true, true, true, false, true, true, true, false, false, false] (fun s_ => [(45, s_.1), (47, s_.2)]) (fun s_ w' => (w'.cell? ⟨g5, 0, none⟩ = some (.slice A0_0 l0_0.length c0_0)) ∧ Kd.R k52 52 w' w5.heap.size (fun _ => True) s_.1 l0_0 ∧ Kd.R k52 52 w' w5.heap.size (fun _ => True) s_.2 [⟨-71, 0, 0, 0⟩] ∧ Below w5.heap.size w5 w') ?_ ?_
        rotate_left
        · intro hCont
          refine two_ (i := 2) (j := 4) (Ni := (some 45)) (Nj := (some 47)) #[true, true, true, true, false, false, true, true, true, false, false, false] #[true, true, false, true, true, false, true, true, true, false, false, false] rfl rfl rfl rfl (by kernel_rfl) (by decide) (by decide) (fun K hK => ?_) (fun K hK => ?_)
          · skip
            refine Kd.R_append_rows_step k52 (w0 := w5) w5.heap.size (by rfl) (.const (.slice none 0 0)) (.tmp 44) 48 52 (.agg #[(.int .i64 0), (.int .i64 0), (.int .i64 0), (.int .i64 0)]) 32 rfl Try.underlying48 info52 rfl (by decide) (by omega) (.slice none 0 0) ([] : List (S52)) l0_0 _ _ _ (fun _ => True) (fun _ => False) rfl rfl (Kd.R_nil _ _ _ _ (fun _ => True)) (Kd.C_below CM.out HB.out) (fun _ _ h => h) (fun _ h => h.elim) (fun _ _ => trivial) (Below.refl w5.heap.size w5) ((Below.refl w5.heap.size w5)).size (by simp only [List.length_nil]; omega) ?_
            intro v45 w6 ho45 hb6 _ _
            refine hK.out _ _ ((blk_cell (blk_below B5.out hb6) 0).trans rfl) (fun hHeld => ?_)
            clear hK K
            refine norm_ (a' := ?_) ?_ ?_
            rotate_left
            · show Act.put _ (some 45) _ = _
              simp only [Act.put, List.setIfInBounds_toArray, List.set_cons_zero, List.set_cons_succ, i64_w, i32_w]
              rfl
            refine one_ (i := 4) (N := (some 47)) #[true, true, true, true, true, false, true, true, true, false, false, false] rfl rfl (by kernel_rfl) (by decide) (fun K hK => ?_)
            refine Kd.R_lit_step k52 (w0 := w5) w5.heap.size 52 (by rfl) (N := 47) rfl (xs := [(⟨-71, 0, 0, 0⟩ : S52)]) (inner := [.int .i64 (-71), .int .i64 0, .int .i64 0, .int .i64 0]) (ok := fun _ => True) (okp := fun _ => True) ?hr_ ((Reps.none _ _).snoc (k52_mkM _ _ _ ⟨-71, 0, 0, 0⟩) rfl) (fun _ h => h) trivial hb6 (hb6).size (by simp) ?_
            (case hr_ => first | (go_simp; done) | (go_simp; rfl))
            intro v47 w7 ho47 hb7 hg7 _
            have h67 : Below w6.heap.size w6 w7 := ⟨hg7.os, hg7.tape, hg7.output, hg7.size, fun i hi => hg7.block i hi (by simp)⟩
            refine hK.out _ _ ((blk_cell (blk_below B5.out hb7) 0).trans rfl) (fun hHeld => ?_)
            clear hK K
            refine norm_ (a' := ?_) ?_ ?_
            rotate_left
            · show Act.put _ (some 47) _ = _
              simp only [Act.put, List.setIfInBounds_toArray, List.set_cons_zero, List.set_cons_succ, i64_w, i32_w]
              rfl
            exact norm_ (by simp only [putAll, Act.put, List.setIfInBounds_toArray, List.set_cons_zero, List.set_cons_succ]) (hCont (v45, v47) _ ⟨hHeld, Kd.R_below ho45 h67, ho47, hb7⟩)
          · skip
            refine Kd.R_lit_step k52 (w0 := w5) w5.heap.size 52 (by rfl) (N := 47) rfl (xs := [(⟨-71, 0, 0, 0⟩ : S52)]) (inner := [.int .i64 (-71), .int .i64 0, .int .i64 0, .int .i64 0]) (ok := fun _ => True) (okp := fun _ => True) ?hr_ ((Reps.none _ _).snoc (k52_mkM _ _ _ ⟨-71, 0, 0, 0⟩) rfl) (fun _ h => h) trivial (Below.refl w5.heap.size w5) ((Below.refl w5.heap.size w5)).size (by simp) ?_
            (case hr_ => first | (go_simp; done) | (go_simp; rfl))
            intro v47 w6 ho47 hb6 hg6 _
            refine hK.out _ _ ((blk_cell (blk_below B5.out hb6) 0).trans rfl) (fun hHeld => ?_)
            clear hK K
            refine norm_ (a' := ?_) ?_ ?_
            rotate_left
            · show Act.put _ (some 47) _ = _
              simp only [Act.put, List.setIfInBounds_toArray, List.set_cons_zero, List.set_cons_succ, i64_w, i32_w]
              rfl
            refine one_ (i := 2) (N := (some 45)) #[true, true, true, true, true, false, true, true, true, false, false, false] rfl rfl (by kernel_rfl) (by decide) (fun K hK => ?_)
            refine Kd.R_append_rows_step k52 (w0 := w5) w5.heap.size (by rfl) (.const (.slice none 0 0)) (.tmp 44) 48 52 (.agg #[(.int .i64 0), (.int .i64 0), (.int .i64 0), (.int .i64 0)]) 32 rfl Try.underlying48 info52 rfl (by decide) (by omega) (.slice none 0 0) ([] : List (S52)) l0_0 _ _ _ (fun _ => True) (fun _ => False) rfl rfl (Kd.R_nil _ _ _ _ (fun _ => True)) (Kd.C_below (Kd.C_below CM.out HB.out) hb6) (fun _ _ h => h) (fun _ h => h.elim) (fun _ _ => trivial) hb6 (hb6).size (by simp only [List.length_nil]; omega) ?_
            intro v45 w7 ho45 hb7 hg7 _
            refine hK.out _ _ ((blk_cell (blk_below B5.out hb7) 0).trans rfl) (fun hHeld => ?_)
            clear hK K
            have h67 : Below w6.heap.size w6 w7 := ⟨hg7.os, hg7.tape, hg7.output, hg7.size, fun i hi => hg7.block i hi (by simp [Value.ownBlock])⟩
            refine norm_ (a' := ?_) ?_ ?_
            rotate_left
            · show Act.put _ (some 45) _ = _
              simp only [Act.put, List.setIfInBounds_toArray, List.set_cons_zero, List.set_cons_succ, i64_w, i32_w]
              rfl
            exact norm_ (by simp only [putAll, Act.put, List.setIfInBounds_toArray, List.set_cons_zero, List.set_cons_succ]) (hCont (v45, v47) _ ⟨hHeld, ho45, Kd.R_below ho47 h67, hb7⟩)
        rintro ⟨v45, v47⟩ w6 ⟨hHeld, ho45, ho47, hb6⟩
        refine norm_ (a' := ?_) ?_ ?_
        rotate_left
        · simp only [putAll, Act.put, List.setIfInBounds_toArray, List.set_cons_zero, List.set_cons_succ]
          rfl
        obtain ⟨A7, c7, e7, hc7, hr7⟩ := Kd.R_reads ho47
        subst e7
        refine one_ (i := 5) (N := (some 48)) #[true, true, true, true, true, true, true, true, true, false, false, false] rfl rfl (by kernel_rfl) (by decide) (fun K hK => ?_)
        refine Kd.R_append_rows_step k52 (w0 := w5) w5.heap.size (by rfl) (.tmp 45) (.tmp 47) 48 52 (.agg #[(.int .i64 0), (.int .i64 0), (.int .i64 0), (.int .i64 0)]) 32 rfl Try.underlying48 info52 rfl (by decide) (by omega) v45 l0_0 [(⟨-71, 0, 0, 0⟩ : S52)] _ _ _ (fun _ => True) (fun _ => False) rfl rfl ho45 hr7 (fun x cs h => by rw [k52_open h]; exact k52_mkM _ _ _ _) (fun _ h => h.elim) (fun _ _ => trivial) hb6 hb6.size (by simp only [List.length_singleton]; omega) ?_
        intro v48 w7 ho48 hb7 _ _
        refine hK.out _ _ ((blk_cell (blk_below B5.out hb7) 0).trans rfl) (fun hHeld => ?_)
        clear hK K ho45 ho47 hr7 hc7 hb6
        obtain ⟨A8, c8, e8, hc8, hr8⟩ := Kd.R_reads ho48
        subst e8
        rw [List.length_append, List.length_singleton] at hc8 hr8 ho48 ⊢
        refine norm_ (a' := ?_) ?_ ?_
        rotate_left
        · show Act.put _ (some 48) _ = _
          simp only [Act.put, List.setIfInBounds_toArray, List.set_cons_zero, List.set_cons_succ, i64_w, i32_w]
          rfl
        obtain ⟨ad8, ea8, _⟩ := hr8.2.2 (by omega)
        subst ea8
        have hA8 : ∃ gy, ad8 = (⟨gy, 0, none⟩ : Addr) := by
          rcases Kd.R_own ho48 with ⟨inner, _, h1 | ⟨g, cap, cur, he, _⟩⟩
          · exact absurd h1.1 (by simp)
          · injection he with e1 _ _; injection e1 with e1; exact ⟨g, e1⟩
        obtain ⟨gy, rfl⟩ := hA8
        have hx := at_T52 hr8 (l0_0.length : Int) (by omega) (by omega)
        obtain ⟨ad9, e9, hx, _⟩ := hx
        cases e9
        have hrd : rd_T52 (l0_0 ++ [(⟨-71, 0, 0, 0⟩ : S52)]) (l0_0.length : Int) = ⟨-71, 0, 0, 0⟩ := by unfold rd_T52; simp
        rw [hrd, Int.toNat_natCast, add_plain] at hx
        have ht := Kd.R_take (m := l0_0.length) ho48 (by simp)
        rw [List.take_left] at ht
        obtain ⟨A9, c9, e9, _, hr9⟩ := Kd.R_reads ht
        injection e9 with f1_ f2_ f3_
        subst f1_
        have HX := Aside0.mk hx
        have HR9 := Aside0.mk hr9
        have HC8 := Aside0.mk hc8
        obtain ⟨i0, hi0, _, hsz0, _⟩ := info_parts info52
        have hcut := cut_to (P := Try.prog) 48 52 .i64 Try.underlying48 hi0 (some ⟨gy, 0, none⟩) (l0_0.length + 1) c8 (l0_0.length : Int) (by omega) (by omega) hc8
        rw [Int.toNat_natCast] at hcut
        have hb12 := blk_below B12.out hb7
        have HT := Aside0.mk ht
        clear hx hr9 hi0 hsz0 ht hr8 f2_ f3_ hrd
        refine pure_ (i := 9) (N := (some 52)) (v := ?_) (a' := ?_) #[true, true, true, true, true, true, true, true, true, true, false, false] rfl rfl (by kernel_rfl) (fun _ _ _ h => h) (Or.inl ⟨by rfl, ?_⟩) ?_ ?_
        rotate_left
        · intro w'
          go_simp
          with_reducible rfl
        rotate_left
        · simp only [Act.put, List.setIfInBounds_toArray, List.set_cons_zero, List.set_cons_succ, i64_w, i32_w]
          rfl
        refine pure_ (i := 10) (N := (some 53)) (v := ?_) (a' := ?_) #[true, true, true, true, true, true, true, true, true, true, true, false] rfl rfl (by kernel_rfl) (fun _ _ _ h => h) (Or.inl ⟨by rfl, ?_⟩) ?_ ?_
        rotate_left
        · intro w'
          go_simp
          with_reducible rfl
        rotate_left
        · simp only [Act.put, List.setIfInBounds_toArray, List.set_cons_zero, List.set_cons_succ, i64_w, i32_w]
          rfl
        refine one_ (i := 11) (N := none) #[true, true, true, true, true, true, true, true, true, true, true, true] rfl rfl (by kernel_rfl) (by decide) (fun K hK => ?_)
        have y0 : w7.cell? ⟨g12, 0, none⟩ = some (.slice A0_0 l0_0.length c0_0) := (blk_cell hb12 0).trans rfl
        have yf0 := blk_frozen hb12 0
        refine skip_ (w1 := ?_) (by rfl) rfl ?_ ?_
        rotate_left
        · go_simp
          rfl
        refine hK.out _ _ ((cell_far (p := ⟨g12, 0, none⟩) N512.out _).trans hHeld) (fun hHeld => ?_)
        clear hK K
        refine done_ (by kernel_rfl) ?_
        go_wp2_with fail
        go_meet
        have hgy : gy ≠ g12 := fun z => Kd.R_ne HT.out hb12 (by decide) (by rw [z]; rfl)
        obtain ⟨A9, c9, e9, _, hr9⟩ := Kd.R_reads (((Only.refl g12 w7).set 0 (.slice (some ⟨gy, 0, none⟩) l0_0.length c8)).R HT.out hb12 (by decide))
        injection e9 with f1_ f2_ f3_
        subst f1_
        exact ⟨gy, c8, ⟨blk_put hb12 0 _ rfl⟩, ⟨hr9⟩, HC8, ⟨(cell_far (p := ⟨g12, 0, none⟩) hgy _).trans HX.out⟩, ⟨blk_far (blk_below B5.out hb7) N512.out _⟩, ⟨below_set (below_step HB.out hb7) G12.out⟩⟩
      case rest =>
        obtain ⟨gy, cy, B12, CY, HCY, EX, B5, HB⟩ := hcut
        have z0 : wc.cell? ⟨g12, 0, none⟩ = some (.slice (some ⟨gy, 0, none⟩) l0_0.length cy) := (blk_cell B12.out 0).trans rfl
        have z1 : wc.cell? ⟨g12, 1, none⟩ = some (.int .i64 a0_1) := (blk_cell B12.out 1).trans rfl
        have z2 : wc.cell? ⟨g12, 2, none⟩ = some (.int .i64 a0_2) := (blk_cell B12.out 2).trans rfl
        have z3 : wc.cell? ⟨g12, 3, none⟩ = some (.int .i64 a0_3) := (blk_cell B12.out 3).trans rfl
        have zf0 := blk_frozen B12.out 0
        have zf1 := blk_frozen B12.out 1
        have zf2 := blk_frozen B12.out 2
        have zf3 := blk_frozen B12.out 3
        go_upto_region 7 with (first | ((with_reducible refine gate_callee (f := 31) rfl ?_); refine goesL_ (some 59) rfl rfl Try.func31 (by kernel_rfl) rfl #[.agg #[.slice (some ⟨gy, 0, none⟩) l0_0.length cy, .int .i64 a0_1, .int .i64 a0_2, .int .i64 a0_3], .int .i64 a2, .int .i64 a3, .int .i64 a4] rfl (by first | (simp; done) | ((try simp only [List.map_toArray, List.map_cons, List.map_nil]); first | done | rfl)) ?_; (with_reducible refine (manifest_Add.calls k _ _ l0_0 a0_1 a0_2 a0_3 a2 a3 a4 ra1 ra2 ra3 ra4 ra5 ra6 _ ?side1 ?side2 FA.out).mono ?_); (case side1 => exact CY.out); (case side2 => have := HCY.out; omega); rintro e wca ⟨va, rfl, hv_, hb_⟩; refine ⟨_, rfl, ?_⟩; obtain ⟨Aa, ca, e_, hc_, hr_⟩ := Kd.R_reads hv_; subst e_; have Ca := Aside0.mk hr_; have KKa := Aside0.mk hc_; clear hr_ hc_ hv_; have n0_ := Aside0.mk (blk_below B12.out hb_); have n1_ := Aside0.mk (Kd.C_below CY.out hb_); have n2_ := Aside0.mk (cell_below EX.out hb_); have n3_ := Aside0.mk (blk_below B5.out hb_); have n4_ := Aside0.mk (below_step HB.out hb_); clear HB B5 EX CY B12; have B12 := n0_; have CY := n1_; have EX := n2_; have B5 := n3_; have HB := n4_; clear n0_ n1_ n2_ n3_ n4_; clear hb_) | ((with_reducible refine gate_dst (N := 13) rfl ?_); refine box_event ?hg (N := 13) ?hd (cs := #[.slice none 0 0, .int .i64 0, .int .i64 0, .int .i64 0]) (t := 50) ?hr ?_; (case hd => rfl); (case hg => rfl); (case hr => first | (go_simp; done) | (go_simp; rfl)); intro g13 hg_ wcb bk_ hb_; have Z13 := Aside0.mk bk_; clear bk_; have L13 := Aside0.mk (show wca.heap.size ≤ g13 from Nat.le_of_eq hg_.symm); have HZ := Aside0.mk hb_; clear hg_ hb_; have y0 : wcb.cell? ⟨g13, 0, none⟩ = some (.slice none 0 0) := (blk_cell Z13.out 0).trans rfl; have y1 : wcb.cell? ⟨g13, 1, none⟩ = some (.int .i64 0) := (blk_cell Z13.out 1).trans rfl; have y2 : wcb.cell? ⟨g13, 2, none⟩ = some (.int .i64 0) := (blk_cell Z13.out 2).trans rfl; have y3 : wcb.cell? ⟨g13, 3, none⟩ = some (.int .i64 0) := (blk_cell Z13.out 3).trans rfl; have yf0 := blk_frozen Z13.out 0; have yf1 := blk_frozen Z13.out 1; have yf2 := blk_frozen Z13.out 2; have yf3 := blk_frozen Z13.out 3) | go_in)
        refine cwp_world ?_
        intro wcc hw_
        have hbb : Below wca.heap.size wca wcc := by rw [hw_]; exact below_set (below_set (below_set (below_set HZ.out L13.out) L13.out) L13.out) L13.out
        have bz : wcc.heap[g13]? = some (.cells #[.slice Aa ra1.length ca, .int .i64 ra2, .int .i64 ra3, .int .i64 ra4] 50 (0, 0)) := by rw [hw_]; exact blk_put (blk_put (blk_put (blk_put Z13.out 0 _ rfl) 1 _ rfl) 2 _ rfl) 3 _ rfl
        have n0_ := Aside0.mk (blk_below B12.out hbb)
        have n1_ := Aside0.mk (Kd.C_below CY.out hbb)
        have n2_ := Aside0.mk (cell_below EX.out hbb)
        have n3_ := Aside0.mk (blk_below B5.out hbb)
        have n4_ := Aside0.mk (below_step HB.out hbb)
        have n5_ := Aside0.mk (Kd.C_below Ca.out hbb)
        clear Ca HB B5 EX CY B12
        have B12 := n0_
        have CY := n1_
        have EX := n2_
        have B5 := n3_
        have HB := n4_
        have Ca := n5_
        clear n0_ n1_ n2_ n3_ n4_ n5_
        clear HZ Z13 hw_ hbb L13
        (try clear z0 z1 z2 z3 zf0 zf1 zf2 zf3)
        clear y0 y1 y2 y3 yf0 yf1 yf2 yf3
        have B13 := Aside0.mk bz
        clear bz
        have z0 : wcc.cell? ⟨g5, 0, none⟩ = some (.slice A0_0 l0_0.length c0_0) := (blk_cell B5.out 0).trans rfl
        have z1 : wcc.cell? ⟨g5, 1, none⟩ = some (.int .i64 a0_1) := (blk_cell B5.out 1).trans rfl
        have z2 : wcc.cell? ⟨g5, 2, none⟩ = some (.int .i64 a0_2) := (blk_cell B5.out 2).trans rfl
        have z3 : wcc.cell? ⟨g5, 3, none⟩ = some (.int .i64 a0_3) := (blk_cell B5.out 3).trans rfl
        have zf0 := blk_frozen B5.out 0
        have zf1 := blk_frozen B5.out 1
        have zf2 := blk_frozen B5.out 2
        have zf3 := blk_frozen B5.out 3
        go_upto_region 8 with (first | ((with_reducible refine gate_callee (f := 32) rfl ?_); refine goesL_ (some 68) rfl rfl Try.func32 (by kernel_rfl) rfl #[.agg #[.slice A0_0 l0_0.length c0_0, .int .i64 a0_1, .int .i64 a0_2, .int .i64 a0_3], .int .i64 a2, .int .i64 a3, .int .i64 a4] rfl (by first | (simp; done) | ((try simp only [List.map_toArray, List.map_cons, List.map_nil]); first | done | rfl)) ?_; (with_reducible refine (lysimeterref16_Add.calls k _ _ l0_0 a0_1 a0_2 a0_3 a2 a3 a4 ra1 rb2 rb3 rb4 ra5 ra6 _ ?side1 ?side2 FB.out).mono ?_); (case side1 => exact Kd.C_below CM.out HB.out); (case side2 => exact HC0_0.out); rintro e wcca ⟨vb, rfl, hv_, hb_⟩; refine ⟨_, rfl, ?_⟩; obtain ⟨Ab, cb, e_, hc_, hr_⟩ := Kd.R_reads hv_; subst e_; have Cb := Aside0.mk hr_; have KKb := Aside0.mk hc_; clear hr_ hc_ hv_; have n0_ := Aside0.mk (blk_below B12.out hb_); have n1_ := Aside0.mk (Kd.C_below CY.out hb_); have n2_ := Aside0.mk (cell_below EX.out hb_); have n3_ := Aside0.mk (blk_below B5.out hb_); have n4_ := Aside0.mk (below_step HB.out hb_); have n5_ := Aside0.mk (Kd.C_below Ca.out hb_); have n6_ := Aside0.mk (blk_below B13.out hb_); clear B13 Ca HB B5 EX CY B12; have B12 := n0_; have CY := n1_; have EX := n2_; have B5 := n3_; have HB := n4_; have Ca := n5_; have B13 := n6_; clear n0_ n1_ n2_ n3_ n4_ n5_ n6_; clear hb_) | ((with_reducible refine gate_dst (N := 16) rfl ?_); refine box_event ?hg (N := 16) ?hd (cs := #[.slice none 0 0, .int .i64 0, .int .i64 0, .int .i64 0]) (t := 50) ?hr ?_; (case hd => rfl); (case hg => rfl); (case hr => first | (go_simp; done) | (go_simp; rfl)); intro g16 hg_ wccb bk_ hb_; have Z16 := Aside0.mk bk_; clear bk_; have L16 := Aside0.mk (show wcca.heap.size ≤ g16 from Nat.le_of_eq hg_.symm); have HZ := Aside0.mk hb_; clear hg_ hb_; have y0 : wccb.cell? ⟨g16, 0, none⟩ = some (.slice none 0 0) := (blk_cell Z16.out 0).trans rfl; have y1 : wccb.cell? ⟨g16, 1, none⟩ = some (.int .i64 0) := (blk_cell Z16.out 1).trans rfl; have y2 : wccb.cell? ⟨g16, 2, none⟩ = some (.int .i64 0) := (blk_cell Z16.out 2).trans rfl; have y3 : wccb.cell? ⟨g16, 3, none⟩ = some (.int .i64 0) := (blk_cell Z16.out 3).trans rfl; have yf0 := blk_frozen Z16.out 0; have yf1 := blk_frozen Z16.out 1; have yf2 := blk_frozen Z16.out 2; have yf3 := blk_frozen Z16.out 3) | go_in)
        refine cwp_world ?_
        intro wccc hw_
        have hbb : Below wcca.heap.size wcca wccc := by rw [hw_]; exact below_set (below_set (below_set (below_set HZ.out L16.out) L16.out) L16.out) L16.out
        have bz : wccc.heap[g16]? = some (.cells #[.slice Ab ra1.length cb, .int .i64 rb2, .int .i64 rb3, .int .i64 rb4] 50 (0, 0)) := by rw [hw_]; exact blk_put (blk_put (blk_put (blk_put Z16.out 0 _ rfl) 1 _ rfl) 2 _ rfl) 3 _ rfl
        have n0_ := Aside0.mk (blk_below B12.out hbb)
        have n1_ := Aside0.mk (Kd.C_below CY.out hbb)
        have n2_ := Aside0.mk (cell_below EX.out hbb)
        have n3_ := Aside0.mk (blk_below B5.out hbb)
        have n4_ := Aside0.mk (below_step HB.out hbb)
        have n5_ := Aside0.mk (Kd.C_below Ca.out hbb)
        have n6_ := Aside0.mk (blk_below B13.out hbb)
        have n7_ := Aside0.mk (Kd.C_below Cb.out hbb)
        clear Cb B13 Ca HB B5 EX CY B12
        have B12 := n0_
        have CY := n1_
        have EX := n2_
        have B5 := n3_
        have HB := n4_
        have Ca := n5_
        have B13 := n6_
        have Cb := n7_
        clear n0_ n1_ n2_ n3_ n4_ n5_ n6_ n7_
        clear HZ Z16 hw_ hbb L16
        (try clear z0 z1 z2 z3 zf0 zf1 zf2 zf3)
        clear y0 y1 y2 y3 yf0 yf1 yf2 yf3
        have B16 := Aside0.mk bz
        clear bz
        go_cut [19, 20, 21] (fun v19 v20 v21 w' => ∃ (g19 : Nat) (Ac : Option Addr) (cc : Nat), v19 = .pointer (some ⟨g19, 0, none⟩) ∧ v20 = .int .i64 rc5 ∧ v21 = .int .i64 rc6 ∧ Aside0 (w'.heap[g19]? = some (.cells #[.slice Ac rc1.length cc, .int .i64 rc2, .int .i64 rc3, .int .i64 rc4] 50 (0, 0))) ∧ Aside0 (Kd.C k52 w' Ac rc1.length rc1) ∧ Aside0 (rc1.length ≤ cc) ∧ Aside0 (Below wccc.heap.size wccc w'))
        case first =>
          have hbd : Below wccc.heap.size wccc wccc.drew := (Below.refl _ _).drew
          have n0_ := Aside0.mk (blk_below B12.out hbd)
          have n1_ := Aside0.mk (Kd.C_below CY.out hbd)
          have n2_ := Aside0.mk (cell_below EX.out hbd)
          have n3_ := Aside0.mk (blk_below B5.out hbd)
          have n4_ := Aside0.mk (below_step HB.out hbd)
          have n5_ := Aside0.mk (Kd.C_below Ca.out hbd)
          have n6_ := Aside0.mk (blk_below B13.out hbd)
          have n7_ := Aside0.mk (Kd.C_below Cb.out hbd)
          have n8_ := Aside0.mk (blk_below B16.out hbd)
          clear B16 Cb B13 Ca HB B5 EX CY B12
          have B12 := n0_
          have CY := n1_
          have EX := n2_
          have B5 := n3_
          have HB := n4_
          have Ca := n5_
          have B13 := n6_
          have Cb := n7_
          have B16 := n8_
          clear n0_ n1_ n2_ n3_ n4_ n5_ n6_ n7_ n8_
          refine start_ (n := 15) (S := fun w' => w'.cell? ⟨g12, 0, none⟩ = some (.slice (some ⟨gy, 0, none⟩) l0_0.length cy) ∧ w'.cell? ⟨g12, 1, none⟩ = some (.int .i64 a0_1) ∧ w'.cell? ⟨g12, 2, none⟩ = some (.int .i64 a0_2) ∧ w'.cell? ⟨g12, 3, none⟩ = some (.int .i64 a0_3)) (ds := []) #[false, false, false, false, false, false, false, false, false, false, false, false, false, false, false] (by kernel_rfl) rfl rfl ⟨(blk_cell (B12.out) 0).trans rfl, (blk_cell (B12.out) 1).trans rfl, (blk_cell (B12.out) 2).trans rfl, (blk_cell (B12.out) 3).trans rfl⟩ (fun hHeld => ?_)
          generalize wccc.drew = w9 at B12 CY EX B5 HB Ca B13 Cb B16 hbd hHeld ⊢
          refine take_ (i := 0) (N := (some 73)) (v := ?_) (a' := ?_) #[true, false, false, false, false, false, false, false, false, false, false, false, false, false, false] rfl rfl (by kernel_rfl) (fun _ _ _ h => h) (Or.inl ⟨by rfl, ?_⟩) hHeld ?_ ?_
          rotate_left
          · rintro w' ⟨s0, s1, s2, s3⟩
            go_simp
            with_reducible rfl
          rotate_left
          · simp only [Act.put, List.setIfInBounds_toArray, List.set_cons_zero, List.set_cons_succ, i64_w, i32_w]
            rfl
          refine pure_ (i := 1) (N := (some 74)) (v := ?_) (a' := ?_) #[true, true, false, false, false, false, false, false, false, false, false, false, false, false, false] rfl rfl (by kernel_rfl) (fun _ _ _ h => h) (Or.inl ⟨by rfl, ?_⟩) ?_ ?_
          rotate_left
          · intro w'
            go_simp
            with_reducible rfl
          rotate_left
          · simp only [Act.put, List.setIfInBounds_toArray, List.set_cons_zero, List.set_cons_succ, i64_w, i32_w]
            rfl
          refine pure_ (i := 3) (N := (some 76)) (v := ?_) (a' := ?_) #[true, true, false, true, false, false, false, false, false, false, false, false, false, false, false] rfl rfl (by kernel_rfl) (fun _ _ _ h => h) (Or.inl ⟨by rfl, ?_⟩) ?_ ?_
          rotate_left
          · intro w'
            go_simp
            with_reducible rfl
          rotate_left
          · simp only [Act.put, List.setIfInBounds_toArray, List.set_cons_zero, List.set_cons_succ, i64_w, i32_w]
            rfl
          refine pure_ (i := 4) (N := (some 77)) (v := ?_) (a' := ?_) #[true, true, false, true, true, false, false, false, false, false, false, false, false, false, false] rfl rfl (by kernel_rfl) (fun _ _ _ h => h) (Or.inl ⟨by rfl, ?_⟩) ?_ ?_
          rotate_left
          · intro w'
            go_simp
            with_reducible rfl
          rotate_left
          · simp only [Act.put, List.setIfInBounds_toArray, List.set_cons_zero, List.set_cons_succ, i64_w, i32_w]
            rfl
          refine pure_ (i := 5) (N := (some 78)) (v := ?_) (a' := ?_) #[true, true, false, true, true, true, false, false, false, false, false, false, false, false, false] rfl rfl (by kernel_rfl) (fun _ _ _ h => h) (Or.inl ⟨by rfl, ?_⟩) ?_ ?_
          rotate_left
          · intro w'
            go_simp
            with_reducible rfl
          rotate_left
          · simp only [Act.put, List.setIfInBounds_toArray, List.set_cons_zero, List.set_cons_succ, i64_w, i32_w]
            rfl
          have D400 : l1.length ≤ 400 := Nat.le_of_not_lt (fun z => H4.out (.inr z))
          refine join_ (σ := Value × Option Addr × Nat × Nat) 3 #[true, true, true, true, true, true, true, true, true, true, true, true, false, false, false] (fun s_ => [(75, s_.1), (79, .tuple #[.agg #[.slice s_.2.1 rc1.length s_.2.2.1, .int .i64 rc2, .int .i64 rc3, .int .i64 rc4], .int .i64 rc5, .int .i64 rc6]), (72, .tuple #[.agg #[.slice s_.2.1 rc1.length s_.2.2.1, .int .i64 rc2, .int .i64 rc3, .int .i64 rc4], .int .i64 rc5, .int .i64 rc6]), (80, .agg #[.slice s_.2.1 rc1.length s_.2.2.1, .int .i64 rc2, .int .i64 rc3, .int .i64 rc4]), (81, .int .i64 rc5), (82, .int .i64 rc6), (19, .pointer (some ⟨s_.2.2.2, 0, none⟩))]) (fun s_ w' => (w'.cell? ⟨g12, 0, none⟩ = some (.slice (some ⟨gy, 0, none⟩) l0_0.length cy) ∧ w'.cell? ⟨g12, 1, none⟩ = some (.int .i64 a0_1) ∧ w'.cell? ⟨g12, 2, none⟩ = some (.int .i64 a0_2) ∧ w'.cell? ⟨g12, 3, none⟩ = some (.int .i64 a0_3)) ∧ Kd.R k52 52 w' w9.heap.size (fun _ => True) (.slice s_.2.1 rc1.length s_.2.2.1) rc1 ∧ rc1.length ≤ s_.2.2.1 ∧ (w'.heap[s_.2.2.2]? = some (.cells #[.slice none 0 0, .int .i64 0, .int .i64 0, .int .i64 0] 50 (0, 0)) ∧ w9.heap.size ≤ s_.2.2.2) ∧ Below w9.heap.size w9 w') ?_ ?_
          rotate_left
          · intro hFin
            refine join_ (σ := Value × Nat) 8 #[true, true, true, true, true, true, false, false, false, false, false, true, false, false, false] (fun s_ => [(75, s_.1), (19, .pointer (some ⟨s_.2, 0, none⟩))]) (fun s_ w' => (w'.cell? ⟨g12, 0, none⟩ = some (.slice (some ⟨gy, 0, none⟩) l0_0.length cy) ∧ w'.cell? ⟨g12, 1, none⟩ = some (.int .i64 a0_1) ∧ w'.cell? ⟨g12, 2, none⟩ = some (.int .i64 a0_2) ∧ w'.cell? ⟨g12, 3, none⟩ = some (.int .i64 a0_3)) ∧ Kd.R (Kd.int .i64) 3 w' w9.heap.size (fun _ => True) s_.1 l1 ∧ (w'.heap[s_.2]? = some (.cells #[.slice none 0 0, .int .i64 0, .int .i64 0, .int .i64 0] 50 (0, 0)) ∧ w9.heap.size ≤ s_.2) ∧ Below w9.heap.size w9 w') ?_ ?_
            rotate_left
            · intro hMid
              refine two_ (i := 2) (j := 11) (Ni := (some 75)) (Nj := (some 19)) #[true, true, true, true, true, true, false, false, false, false, false, false, false, false, false] #[true, true, false, true, true, true, false, false, false, false, false, true, false, false, false] rfl rfl rfl rfl (by kernel_rfl) (by decide) (by decide) (fun K hK => ?_) (fun K hK => ?_)
              · skip
                refine Kd.R_append_rows_step (Kd.int .i64) (w0 := w9) w9.heap.size (by rfl) (.const (.slice none 0 0)) (.tmp 74) 36 3 (.int .i64 0) 8 rfl Try.underlying36 info3 rfl (by decide) (by omega) (.slice none 0 0) ([] : List Int) l1 _ _ _ (fun _ => True) (fun _ => False) rfl rfl (Kd.R_nil _ _ _ _ (fun _ => True)) (Kd.C_below CI.out HB.out) (fun _ _ h => h) (fun _ h => h.elim) (fun _ _ => trivial) (Below.refl w9.heap.size w9) ((Below.refl w9.heap.size w9)).size (by simp only [List.length_nil]; omega) ?_
                intro v75 wx ho_ hbx hg_ _
                rw [List.nil_append] at ho_
                refine hK.out _ _ ⟨(blk_cell (blk_below B12.out hbx) 0).trans rfl, (blk_cell (blk_below B12.out hbx) 1).trans rfl, (blk_cell (blk_below B12.out hbx) 2).trans rfl, (blk_cell (blk_below B12.out hbx) 3).trans rfl⟩ (fun hHeld => ?_)
                clear hK K
                refine norm_ (a' := ?_) ?_ ?_
                rotate_left
                · show Act.put _ (some 75) _ = _
                  simp only [Act.put, List.setIfInBounds_toArray, List.set_cons_zero, List.set_cons_succ, i64_w, i32_w]
                  rfl
                refine two_ (i := 6) (j := 11) (Ni := (some 79)) (Nj := (some 19)) #[true, true, true, true, true, true, true, false, false, false, false, false, false, false, false] #[true, true, true, true, true, true, false, false, false, false, false, true, false, false, false] rfl rfl rfl rfl (by kernel_rfl) (by decide) (by decide) (fun K hK => ?_) (fun K hK => ?_)
                · skip
                  obtain ⟨A5_, c5_, e5_, hc5_, hr5_⟩ := Kd.R_reads ho_
                  subst e5_
                  refine goes_ Try.func33 (by kernel_rfl) rfl #[.agg #[.slice (some ⟨gy, 0, none⟩) l0_0.length cy, .int .i64 a0_1, .int .i64 a0_2, .int .i64 a0_3], .slice A5_ l1.length c5_, .int .i64 a2, .int .i64 a3, .int .i64 a4] (by rfl) rfl rfl (by first | (simp; done) | ((try simp only [List.map_toArray, List.map_cons, List.map_nil]); first | done | rfl)) ?_
                  (with_reducible refine (manifest_Swap.calls k _ _ l0_0 a0_1 a0_2 a0_3 _ _ l1 a2 a3 a4 rc1 rc2 rc3 rc4 rc5 rc6 _ ?side1 ?side2 ?side3 ?side4 FC.out).mono ?_)
                  (case side1 => exact Kd.C_below CY.out hbx)
                  (case side2 => have := HCY.out; omega)
                  (case side3 => exact hr5_)
                  (case side4 => exact hc5_)
                  rintro e wz ⟨v79, rfl, hv_, hb_⟩
                  refine ⟨_, rfl, ?_⟩
                  obtain ⟨A6_, c6_, e6_, hc6_, hr6_⟩ := Kd.R_reads hv_
                  subst e6_
                  clear hr6_
                  have hr6_ := Kd.R_lower hv_ (hbx).size
                  have hbz := below_step hbx hb_
                  refine hK.out _ _ ⟨(blk_cell (blk_below B12.out hbz) 0).trans rfl, (blk_cell (blk_below B12.out hbz) 1).trans rfl, (blk_cell (blk_below B12.out hbz) 2).trans rfl, (blk_cell (blk_below B12.out hbz) 3).trans rfl⟩ (fun hHeld => ?_)
                  clear hK K
                  refine norm_ (a' := ?_) ?_ ?_
                  rotate_left
                  · show Act.put _ (some 79) _ = _
                    simp only [Act.put, List.setIfInBounds_toArray, List.set_cons_zero, List.set_cons_succ, i64_w, i32_w]
                    rfl
                  refine pure_ (i := 7) (N := (some 72)) (v := ?_) (a' := ?_) #[true, true, true, true, true, true, true, true, false, false, false, false, false, false, false] rfl rfl (by kernel_rfl) (fun _ _ _ h => h) (Or.inl ⟨by rfl, ?_⟩) ?_ ?_
                  rotate_left
                  · intro w'
                    go_simp
                    with_reducible rfl
                  rotate_left
                  · simp only [Act.put, List.setIfInBounds_toArray, List.set_cons_zero, List.set_cons_succ, i64_w, i32_w]
                    rfl
                  refine pure_ (i := 8) (N := (some 80)) (v := ?_) (a' := ?_) #[true, true, true, true, true, true, true, true, true, false, false, false, false, false, false] rfl rfl (by kernel_rfl) (fun _ _ _ h => h) (Or.inl ⟨by rfl, ?_⟩) ?_ ?_
                  rotate_left
                  · intro w'
                    go_simp
                    with_reducible rfl
                  rotate_left
                  · simp only [Act.put, List.setIfInBounds_toArray, List.set_cons_zero, List.set_cons_succ, i64_w, i32_w]
                    rfl
                  refine pure_ (i := 9) (N := (some 81)) (v := ?_) (a' := ?_) #[true, true, true, true, true, true, true, true, true, true, false, false, false, false, false] rfl rfl (by kernel_rfl) (fun _ _ _ h => h) (Or.inl ⟨by rfl, ?_⟩) ?_ ?_
                  rotate_left
                  · intro w'
                    go_simp
                    with_reducible rfl
                  rotate_left
                  · simp only [Act.put, List.setIfInBounds_toArray, List.set_cons_zero, List.set_cons_succ, i64_w, i32_w]
                    rfl
                  refine pure_ (i := 10) (N := (some 82)) (v := ?_) (a' := ?_) #[true, true, true, true, true, true, true, true, true, true, true, false, false, false, false] rfl rfl (by kernel_rfl) (fun _ _ _ h => h) (Or.inl ⟨by rfl, ?_⟩) ?_ ?_
                  rotate_left
                  · intro w'
                    go_simp
                    with_reducible rfl
                  rotate_left
                  · simp only [Act.put, List.setIfInBounds_toArray, List.set_cons_zero, List.set_cons_succ, i64_w, i32_w]
                    rfl
                  refine one_ (i := 11) (N := (some 19)) #[true, true, true, true, true, true, true, true, true, true, true, true, false, false, false] rfl rfl (by kernel_rfl) (by decide) (fun K hK => ?_)
                  refine box_step ?hg (N := 19) ?hd (cs := #[.slice none 0 0, .int .i64 0, .int .i64 0, .int .i64 0]) (t := 50) ?hr ?_
                  (case hd => rfl)
                  (case hg => rfl)
                  (case hr => first | (go_simp; done) | (go_simp; rfl))
                  intro g19 hg_ wy bky hby
                  have hbw := below_step hbz hby
                  refine hK.out _ _ ⟨(blk_cell (blk_below B12.out hbw) 0).trans rfl, (blk_cell (blk_below B12.out hbw) 1).trans rfl, (blk_cell (blk_below B12.out hbw) 2).trans rfl, (blk_cell (blk_below B12.out hbw) 3).trans rfl⟩ (fun hHeld => ?_)
                  clear hK K
                  refine norm_ (a' := ?_) ?_ ?_
                  rotate_left
                  · show Act.put _ (some 19) _ = _
                    simp only [Act.put, List.setIfInBounds_toArray, List.set_cons_zero, List.set_cons_succ, i64_w, i32_w]
                    rfl
                  exact norm_ (by simp only [putAll, Act.put, List.setIfInBounds_toArray, List.set_cons_zero, List.set_cons_succ]) (hFin (.slice A5_ l1.length c5_, A6_, c6_, g19) _ ⟨hHeld, Kd.R_below hr6_ hby, hc6_, ⟨bky, by rw [hg_]; exact hbz.size⟩, hbw⟩)
                · skip
                  refine box_step ?hg (N := 19) ?hd (cs := #[.slice none 0 0, .int .i64 0, .int .i64 0, .int .i64 0]) (t := 50) ?hr ?_
                  (case hd => rfl)
                  (case hg => rfl)
                  (case hr => first | (go_simp; done) | (go_simp; rfl))
                  intro g19 hg_ wy bky hby
                  have hbw := below_step hbx hby
                  refine hK.out _ _ ⟨(blk_cell (blk_below B12.out hbw) 0).trans rfl, (blk_cell (blk_below B12.out hbw) 1).trans rfl, (blk_cell (blk_below B12.out hbw) 2).trans rfl, (blk_cell (blk_below B12.out hbw) 3).trans rfl⟩ (fun hHeld => ?_)
                  clear hK K
                  refine norm_ (a' := ?_) ?_ ?_
                  rotate_left
                  · show Act.put _ (some 19) _ = _
                    simp only [Act.put, List.setIfInBounds_toArray, List.set_cons_zero, List.set_cons_succ, i64_w, i32_w]
                    rfl
                  exact norm_ (by simp only [putAll, Act.put, List.setIfInBounds_toArray, List.set_cons_zero, List.set_cons_succ]) (hMid (v75, g19) _ ⟨hHeld, Kd.R_below ho_ hby, ⟨bky, by rw [hg_]; exact hbx.size⟩, hbw⟩)
              · skip
                refine box_step ?hg (N := 19) ?hd (cs := #[.slice none 0 0, .int .i64 0, .int .i64 0, .int .i64 0]) (t := 50) ?hr ?_
                (case hd => rfl)
                (case hg => rfl)
                (case hr => first | (go_simp; done) | (go_simp; rfl))
                intro g19 hg_ wy bky hby
                have hgy_ := hg_
                refine hK.out _ _ ⟨(blk_cell (blk_below B12.out hby) 0).trans rfl, (blk_cell (blk_below B12.out hby) 1).trans rfl, (blk_cell (blk_below B12.out hby) 2).trans rfl, (blk_cell (blk_below B12.out hby) 3).trans rfl⟩ (fun hHeld => ?_)
                clear hK K
                refine norm_ (a' := ?_) ?_ ?_
                rotate_left
                · show Act.put _ (some 19) _ = _
                  simp only [Act.put, List.setIfInBounds_toArray, List.set_cons_zero, List.set_cons_succ, i64_w, i32_w]
                  rfl
                refine one_ (i := 2) (N := (some 75)) #[true, true, true, true, true, true, false, false, false, false, false, true, false, false, false] rfl rfl (by kernel_rfl) (by decide) (fun K hK => ?_)
                refine Kd.R_append_rows_step (Kd.int .i64) (w0 := w9) w9.heap.size (by rfl) (.const (.slice none 0 0)) (.tmp 74) 36 3 (.int .i64 0) 8 rfl Try.underlying36 info3 rfl (by decide) (by omega) (.slice none 0 0) ([] : List Int) l1 _ _ _ (fun _ => True) (fun _ => False) rfl rfl (Kd.R_nil _ _ _ _ (fun _ => True)) (Kd.C_below (Kd.C_below CI.out HB.out) hby) (fun _ _ h => h) (fun _ h => h.elim) (fun _ _ => trivial) hby (hby).size (by simp only [List.length_nil]; omega) ?_
                intro v75 wx ho_ hbx hg_ _
                rw [List.nil_append] at ho_
                have h67 : Below wy.heap.size wy wx := ⟨hg_.os, hg_.tape, hg_.output, hg_.size, fun i hi => hg_.block i hi (by simp [Value.ownBlock])⟩
                refine hK.out _ _ ⟨(blk_cell (blk_below B12.out hbx) 0).trans rfl, (blk_cell (blk_below B12.out hbx) 1).trans rfl, (blk_cell (blk_below B12.out hbx) 2).trans rfl, (blk_cell (blk_below B12.out hbx) 3).trans rfl⟩ (fun hHeld => ?_)
                clear hK K
                refine norm_ (a' := ?_) ?_ ?_
                rotate_left
                · show Act.put _ (some 75) _ = _
                  simp only [Act.put, List.setIfInBounds_toArray, List.set_cons_zero, List.set_cons_succ, i64_w, i32_w]
                  rfl
                exact norm_ (by simp only [putAll, Act.put, List.setIfInBounds_toArray, List.set_cons_zero, List.set_cons_succ]) (hMid (v75, g19) _ ⟨hHeld, ho_, ⟨blk_below bky h67, by rw [hgy_]; exact Nat.le_refl _⟩, hbx⟩)
            rintro ⟨v75, g19⟩ wx ⟨hHeld, ho_, ⟨bky, hge_⟩, hbx⟩
            refine norm_ (a' := ?_) ?_ ?_
            rotate_left
            · simp only [putAll, Act.put, List.setIfInBounds_toArray, List.set_cons_zero, List.set_cons_succ]
              rfl
            refine one_ (i := 6) (N := (some 79)) #[true, true, true, true, true, true, true, false, false, false, false, true, false, false, false] rfl rfl (by kernel_rfl) (by decide) (fun K hK => ?_)
            obtain ⟨A5_, c5_, e5_, hc5_, hr5_⟩ := Kd.R_reads ho_
            subst e5_
            refine goes_ Try.func33 (by kernel_rfl) rfl #[.agg #[.slice (some ⟨gy, 0, none⟩) l0_0.length cy, .int .i64 a0_1, .int .i64 a0_2, .int .i64 a0_3], .slice A5_ l1.length c5_, .int .i64 a2, .int .i64 a3, .int .i64 a4] (by rfl) rfl rfl (by first | (simp; done) | ((try simp only [List.map_toArray, List.map_cons, List.map_nil]); first | done | rfl)) ?_
            (with_reducible refine (manifest_Swap.calls k _ _ l0_0 a0_1 a0_2 a0_3 _ _ l1 a2 a3 a4 rc1 rc2 rc3 rc4 rc5 rc6 _ ?side1 ?side2 ?side3 ?side4 FC.out).mono ?_)
            (case side1 => exact Kd.C_below CY.out hbx)
            (case side2 => have := HCY.out; omega)
            (case side3 => exact hr5_)
            (case side4 => exact hc5_)
            rintro e wz ⟨v79, rfl, hv_, hb_⟩
            refine ⟨_, rfl, ?_⟩
            obtain ⟨A6_, c6_, e6_, hc6_, hr6_⟩ := Kd.R_reads hv_
            subst e6_
            clear hr6_
            have hr6_ := Kd.R_lower hv_ (hbx).size
            have hbz := below_step hbx hb_
            refine hK.out _ _ ⟨(blk_cell (blk_below B12.out hbz) 0).trans rfl, (blk_cell (blk_below B12.out hbz) 1).trans rfl, (blk_cell (blk_below B12.out hbz) 2).trans rfl, (blk_cell (blk_below B12.out hbz) 3).trans rfl⟩ (fun hHeld => ?_)
            clear hK K
            refine norm_ (a' := ?_) ?_ ?_
            rotate_left
            · show Act.put _ (some 79) _ = _
              simp only [Act.put, List.setIfInBounds_toArray, List.set_cons_zero, List.set_cons_succ, i64_w, i32_w]
              rfl
            refine pure_ (i := 7) (N := (some 72)) (v := ?_) (a' := ?_) #[true, true, true, true, true, true, true, true, false, false, false, true, false, false, false] rfl rfl (by kernel_rfl) (fun _ _ _ h => h) (Or.inl ⟨by rfl, ?_⟩) ?_ ?_
            rotate_left
            · intro w'
              go_simp
              with_reducible rfl
            rotate_left
            · simp only [Act.put, List.setIfInBounds_toArray, List.set_cons_zero, List.set_cons_succ, i64_w, i32_w]
              rfl
            refine pure_ (i := 8) (N := (some 80)) (v := ?_) (a' := ?_) #[true, true, true, true, true, true, true, true, true, false, false, true, false, false, false] rfl rfl (by kernel_rfl) (fun _ _ _ h => h) (Or.inl ⟨by rfl, ?_⟩) ?_ ?_
            rotate_left
            · intro w'
              go_simp
              with_reducible rfl
            rotate_left
            · simp only [Act.put, List.setIfInBounds_toArray, List.set_cons_zero, List.set_cons_succ, i64_w, i32_w]
              rfl
            refine pure_ (i := 9) (N := (some 81)) (v := ?_) (a' := ?_) #[true, true, true, true, true, true, true, true, true, true, false, true, false, false, false] rfl rfl (by kernel_rfl) (fun _ _ _ h => h) (Or.inl ⟨by rfl, ?_⟩) ?_ ?_
            rotate_left
            · intro w'
              go_simp
              with_reducible rfl
            rotate_left
            · simp only [Act.put, List.setIfInBounds_toArray, List.set_cons_zero, List.set_cons_succ, i64_w, i32_w]
              rfl
            refine pure_ (i := 10) (N := (some 82)) (v := ?_) (a' := ?_) #[true, true, true, true, true, true, true, true, true, true, true, true, false, false, false] rfl rfl (by kernel_rfl) (fun _ _ _ h => h) (Or.inl ⟨by rfl, ?_⟩) ?_ ?_
            rotate_left
            · intro w'
              go_simp
              with_reducible rfl
            rotate_left
            · simp only [Act.put, List.setIfInBounds_toArray, List.set_cons_zero, List.set_cons_succ, i64_w, i32_w]
              rfl
            exact norm_ (by simp only [putAll, Act.put, List.setIfInBounds_toArray, List.set_cons_zero, List.set_cons_succ]) (hFin (.slice A5_ l1.length c5_, A6_, c6_, g19) _ ⟨hHeld, hr6_, hc6_, ⟨blk_below bky hb_, hge_⟩, hbz⟩)
          rintro ⟨v75, Ac, cc, g19⟩ wx ⟨hHeld, hr_, hc_, ⟨bky, hge_⟩, hbx⟩
          refine norm_ (a' := ?_) ?_ ?_
          rotate_left
          · simp only [putAll, Act.put, List.setIfInBounds_toArray, List.set_cons_zero, List.set_cons_succ]
            rfl
          refine one_ (i := 12) (N := none) #[true, true, true, true, true, true, true, true, true, true, true, true, true, false, false] rfl rfl (by kernel_rfl) (by decide) (fun K hK => ?_)
          have y0 : wx.cell? ⟨g19, 0, none⟩ = some (.slice none 0 0) := (blk_cell (Aside0.mk bky).out 0).trans rfl
          have y1 : wx.cell? ⟨g19, 1, none⟩ = some (.int .i64 0) := (blk_cell (Aside0.mk bky).out 1).trans rfl
          have y2 : wx.cell? ⟨g19, 2, none⟩ = some (.int .i64 0) := (blk_cell (Aside0.mk bky).out 2).trans rfl
          have y3 : wx.cell? ⟨g19, 3, none⟩ = some (.int .i64 0) := (blk_cell (Aside0.mk bky).out 3).trans rfl
          have yf0 := blk_frozen (Aside0.mk bky).out 0
          have yf1 := blk_frozen (Aside0.mk bky).out 1
          have yf2 := blk_frozen (Aside0.mk bky).out 2
          have yf3 := blk_frozen (Aside0.mk bky).out 3
          refine skip_ (w1 := ?_) (by rfl) rfl ?_ ?_
          rotate_left
          · go_simp
            rfl
          refine hK.out _ _ ⟨(blk_cell (blk_below B12.out (below_set (below_set (below_set (below_set hbx hge_) hge_) hge_) hge_)) 0).trans rfl, (blk_cell (blk_below B12.out (below_set (below_set (below_set (below_set hbx hge_) hge_) hge_) hge_)) 1).trans rfl, (blk_cell (blk_below B12.out (below_set (below_set (below_set (below_set hbx hge_) hge_) hge_) hge_)) 2).trans rfl, (blk_cell (blk_below B12.out (below_set (below_set (below_set (below_set hbx hge_) hge_) hge_) hge_)) 3).trans rfl⟩ (fun hHeld => ?_)
          clear hK K
          refine pure_ (i := 13) (N := (some 20)) (v := ?_) (a' := ?_) #[true, true, true, true, true, true, true, true, true, true, true, true, true, true, false] rfl rfl (by kernel_rfl) (fun _ _ _ h => h) (Or.inl ⟨by rfl, ?_⟩) ?_ ?_
          rotate_left
          · intro w'
            go_simp
            with_reducible rfl
          rotate_left
          · simp only [Act.put, List.setIfInBounds_toArray, List.set_cons_zero, List.set_cons_succ, i64_w, i32_w]
            rfl
          refine pure_ (i := 14) (N := (some 21)) (v := ?_) (a' := ?_) #[true, true, true, true, true, true, true, true, true, true, true, true, true, true, true] rfl rfl (by kernel_rfl) (fun _ _ _ h => h) (Or.inl ⟨by rfl, ?_⟩) ?_ ?_
          rotate_left
          · intro w'
            go_simp
            with_reducible rfl
          rotate_left
          · simp only [Act.put, List.setIfInBounds_toArray, List.set_cons_zero, List.set_cons_succ, i64_w, i32_w]
            rfl
          refine done_ (by kernel_rfl) ?_
          go_wp2_with fail
          go_meet
          obtain ⟨A9, c9, e9, _, hr9⟩ := Kd.R_reads ((((((Only.refl g19 wx).set 0 (.slice Ac rc1.length cc)).set 1 (.int .i64 rc2)).set 2 (.int .i64 rc3)).set 3 (.int .i64 rc4)).R hr_ bky (by decide))
          injection e9 with f1_ f2_ f3_
          subst f1_
          exact ⟨g19, Ac, cc, rfl, rfl, rfl, ⟨blk_put (blk_put (blk_put (blk_put bky 0 _ rfl) 1 _ rfl) 2 _ rfl) 3 _ rfl⟩, ⟨hr9⟩, ⟨hc_⟩, ⟨below_step hbd (below_set (below_set (below_set (below_set hbx hge_) hge_) hge_) hge_)⟩⟩
        case rest =>
          obtain ⟨g19, Ac, cc, rfl, rfl, rfl, B19, CC, KKc, HBB⟩ := hcut
          have n0_ := Aside0.mk (blk_below B12.out HBB.out)
          have n1_ := Aside0.mk (Kd.C_below CY.out HBB.out)
          have n2_ := Aside0.mk (cell_below EX.out HBB.out)
          have n3_ := Aside0.mk (blk_below B5.out HBB.out)
          have n4_ := Aside0.mk (below_step HB.out HBB.out)
          have n5_ := Aside0.mk (Kd.C_below Ca.out HBB.out)
          have n6_ := Aside0.mk (blk_below B13.out HBB.out)
          have n7_ := Aside0.mk (Kd.C_below Cb.out HBB.out)
          have n8_ := Aside0.mk (blk_below B16.out HBB.out)
          clear B16 Cb B13 Ca HB B5 EX CY B12
          have B12 := n0_
          have CY := n1_
          have EX := n2_
          have B5 := n3_
          have HB := n4_
          have Ca := n5_
          have B13 := n6_
          have Cb := n7_
          have B16 := n8_
          clear n0_ n1_ n2_ n3_ n4_ n5_ n6_ n7_ n8_
          clear HBB
          have z0 : wc.cell? ⟨g5, 0, none⟩ = some (.slice A0_0 l0_0.length c0_0) := (blk_cell B5.out 0).trans rfl
          have z1 : wc.cell? ⟨g5, 1, none⟩ = some (.int .i64 a0_1) := (blk_cell B5.out 1).trans rfl
          have z2 : wc.cell? ⟨g5, 2, none⟩ = some (.int .i64 a0_2) := (blk_cell B5.out 2).trans rfl
          have z3 : wc.cell? ⟨g5, 3, none⟩ = some (.int .i64 a0_3) := (blk_cell B5.out 3).trans rfl
          have zf0 := blk_frozen B5.out 0
          have zf1 := blk_frozen B5.out 1
          have zf2 := blk_frozen B5.out 2
          have zf3 := blk_frozen B5.out 3
          go_upto_region 10 with (first | ((with_reducible refine gate_callee (f := 34) rfl ?_); refine goesL_ (some 89) rfl rfl Try.func34 (by kernel_rfl) rfl #[.agg #[.slice A0_0 l0_0.length c0_0, .int .i64 a0_1, .int .i64 a0_2, .int .i64 a0_3], .slice A1 l1.length c1, .int .i64 a2, .int .i64 a3, .int .i64 a4] rfl (by first | (simp; done) | ((try simp only [List.map_toArray, List.map_cons, List.map_nil]); first | done | rfl)) ?_; (with_reducible refine (lysimeterref16_Swap.calls k _ _ l0_0 a0_1 a0_2 a0_3 _ _ l1 a2 a3 a4 rd1 rd2 rd3 rd4 rc5 rc6 _ ?side1 ?side2 ?side3 ?side4 FD.out).mono ?_); (case side1 => exact Kd.C_below CM.out HB.out); (case side2 => exact HC0_0.out); (case side3 => exact Kd.C_below CI.out HB.out); (case side4 => exact HC1.out); rintro e wca ⟨vd, rfl, hv_, hb_⟩; refine ⟨_, rfl, ?_⟩; obtain ⟨Ad, cd, e_, hc_, hr_⟩ := Kd.R_reads hv_; subst e_; have Cd := Aside0.mk hr_; have KKd := Aside0.mk hc_; clear hr_ hc_ hv_; have n0_ := Aside0.mk (blk_below B12.out hb_); have n1_ := Aside0.mk (Kd.C_below CY.out hb_); have n2_ := Aside0.mk (cell_below EX.out hb_); have n3_ := Aside0.mk (blk_below B5.out hb_); have n4_ := Aside0.mk (below_step HB.out hb_); have n5_ := Aside0.mk (Kd.C_below Ca.out hb_); have n6_ := Aside0.mk (blk_below B13.out hb_); have n7_ := Aside0.mk (Kd.C_below Cb.out hb_); have n8_ := Aside0.mk (blk_below B16.out hb_); have n9_ := Aside0.mk (blk_below B19.out hb_); have n10_ := Aside0.mk (Kd.C_below CC.out hb_); clear CC B19 B16 Cb B13 Ca HB B5 EX CY B12; have B12 := n0_; have CY := n1_; have EX := n2_; have B5 := n3_; have HB := n4_; have Ca := n5_; have B13 := n6_; have Cb := n7_; have B16 := n8_; have B19 := n9_; have CC := n10_; clear n0_ n1_ n2_ n3_ n4_ n5_ n6_ n7_ n8_ n9_ n10_; clear hb_) | ((with_reducible refine gate_dst (N := 22) rfl ?_); refine box_event ?hg (N := 22) ?hd (cs := #[.slice none 0 0, .int .i64 0, .int .i64 0, .int .i64 0]) (t := 50) ?hr ?_; (case hd => rfl); (case hg => rfl); (case hr => first | (go_simp; done) | (go_simp; rfl)); intro g22 hg_ wcb bk_ hb_; have Z22 := Aside0.mk bk_; clear bk_; have L22 := Aside0.mk (show wca.heap.size ≤ g22 from Nat.le_of_eq hg_.symm); have HZ := Aside0.mk hb_; clear hg_ hb_; have y0 : wcb.cell? ⟨g22, 0, none⟩ = some (.slice none 0 0) := (blk_cell Z22.out 0).trans rfl; have y1 : wcb.cell? ⟨g22, 1, none⟩ = some (.int .i64 0) := (blk_cell Z22.out 1).trans rfl; have y2 : wcb.cell? ⟨g22, 2, none⟩ = some (.int .i64 0) := (blk_cell Z22.out 2).trans rfl; have y3 : wcb.cell? ⟨g22, 3, none⟩ = some (.int .i64 0) := (blk_cell Z22.out 3).trans rfl; have yf0 := blk_frozen Z22.out 0; have yf1 := blk_frozen Z22.out 1; have yf2 := blk_frozen Z22.out 2; have yf3 := blk_frozen Z22.out 3) | go_in)
          refine cwp_world ?_
          intro wcc hw_
          have hbb : Below wca.heap.size wca wcc := by rw [hw_]; exact below_set (below_set (below_set (below_set HZ.out L22.out) L22.out) L22.out) L22.out
          have bz : wcc.heap[g22]? = some (.cells #[.slice Ad rd1.length cd, .int .i64 rd2, .int .i64 rd3, .int .i64 rd4] 50 (0, 0)) := by rw [hw_]; exact blk_put (blk_put (blk_put (blk_put Z22.out 0 _ rfl) 1 _ rfl) 2 _ rfl) 3 _ rfl
          have n0_ := Aside0.mk (blk_below B12.out hbb)
          have n1_ := Aside0.mk (Kd.C_below CY.out hbb)
          have n2_ := Aside0.mk (cell_below EX.out hbb)
          have n3_ := Aside0.mk (blk_below B5.out hbb)
          have n4_ := Aside0.mk (below_step HB.out hbb)
          have n5_ := Aside0.mk (Kd.C_below Ca.out hbb)
          have n6_ := Aside0.mk (blk_below B13.out hbb)
          have n7_ := Aside0.mk (Kd.C_below Cb.out hbb)
          have n8_ := Aside0.mk (blk_below B16.out hbb)
          have n9_ := Aside0.mk (blk_below B19.out hbb)
          have n10_ := Aside0.mk (Kd.C_below CC.out hbb)
          have n11_ := Aside0.mk (Kd.C_below Cd.out hbb)
          clear Cd CC B19 B16 Cb B13 Ca HB B5 EX CY B12
          have B12 := n0_
          have CY := n1_
          have EX := n2_
          have B5 := n3_
          have HB := n4_
          have Ca := n5_
          have B13 := n6_
          have Cb := n7_
          have B16 := n8_
          have B19 := n9_
          have CC := n10_
          have Cd := n11_
          clear n0_ n1_ n2_ n3_ n4_ n5_ n6_ n7_ n8_ n9_ n10_ n11_
          clear HZ Z22 hw_ hbb L22
          (try clear z0 z1 z2 z3 zf0 zf1 zf2 zf3)
          clear y0 y1 y2 y3 yf0 yf1 yf2 yf3
          have B22 := Aside0.mk bz
          clear bz
          go_wp2
          go_loopg [25] ra1.length (fun kq v25 w' => ∃ (i : Nat), i ≤ ra1.length ∧ kq + i = ra1.length ∧ v25 = .int .i64 i ∧ Aside0 (Below wcc.heap.size wcc w'))
          case atStart => exact ⟨0, Nat.zero_le _, by omega, rfl, ⟨Below.refl _ _⟩⟩
          case round =>
            obtain ⟨i, hi, hk, rfl, HL⟩ := hrel
            have b13 := blk_below B13.out HL.out
            have b16 := blk_below B16.out HL.out
            have x0 : wr.cell? ⟨g13, 0, none⟩ = some (.slice Aa ra1.length ca) := (blk_cell (Aside0.mk b13).out 0).trans rfl
            have x1 : wr.cell? ⟨g13, 1, none⟩ = some (.int .i64 ra2) := (blk_cell (Aside0.mk b13).out 1).trans rfl
            have x2 : wr.cell? ⟨g13, 2, none⟩ = some (.int .i64 ra3) := (blk_cell (Aside0.mk b13).out 2).trans rfl
            have x3 : wr.cell? ⟨g13, 3, none⟩ = some (.int .i64 ra4) := (blk_cell (Aside0.mk b13).out 3).trans rfl
            have xf0 := blk_frozen (Aside0.mk b13).out 0
            have xf1 := blk_frozen (Aside0.mk b13).out 1
            have xf2 := blk_frozen (Aside0.mk b13).out 2
            have xf3 := blk_frozen (Aside0.mk b13).out 3
            have y0 : wr.cell? ⟨g16, 0, none⟩ = some (.slice Ab ra1.length cb) := (blk_cell (Aside0.mk b16).out 0).trans rfl
            have y1 : wr.cell? ⟨g16, 1, none⟩ = some (.int .i64 rb2) := (blk_cell (Aside0.mk b16).out 1).trans rfl
            have y2 : wr.cell? ⟨g16, 2, none⟩ = some (.int .i64 rb3) := (blk_cell (Aside0.mk b16).out 2).trans rfl
            have y3 : wr.cell? ⟨g16, 3, none⟩ = some (.int .i64 rb4) := (blk_cell (Aside0.mk b16).out 3).trans rfl
            have yf0 := blk_frozen (Aside0.mk b16).out 0
            have yf1 := blk_frozen (Aside0.mk b16).out 1
            have yf2 := blk_frozen (Aside0.mk b16).out 2
            have yf3 := blk_frozen (Aside0.mk b16).out 3
            clear b13 b16
            by_cases hlt : i < ra1.length
            · obtain ⟨k1, rfl⟩ : ∃ k1, gk = k1 + 1 := ⟨gk - 1, by omega⟩
              obtain ⟨ad, e, p0, p1, p2, p3⟩ := at_T52 (Kd.C_below Ca.out HL.out) (i : Int) (by omega) (by omega)
              cases e
              obtain ⟨ad', e, q0, q1, q2, q3⟩ := at_T52 (Kd.C_below Cb.out HL.out) (i : Int) (by omega) (by omega)
              cases e
              rw [Int.toNat_natCast] at p0 p1 p2 p3 q0 q1 q2 q3
              have i0 : (0 ≤ (i : Int)) = True := eq_true (by omega)
              have i1 : ((i : Int) < (ra1.length : Int)) = True := eq_true (by omega)
              have i2 : (i < ra1.length) = True := eq_true hlt
              have i3 : decide ((i : Int) < (ra1.length : Int)) = true := decide_eq_true (by omega)
              have i4 : decide (i < ra1.length) = true := decide_eq_true hlt
              go_wp2
              go_quiet (fail)
              go_wp2
              go_roundg k1
              case measure => omega
              case rel => exact ⟨i + 1, by omega, by omega, by first | rfl | exact congrArg (Value.int .i64) (by have := Ca.out.2.1; unfold wrap64; omega), ⟨pw_below_drewN HL.out _⟩⟩
            · obtain rfl : i = ra1.length := by omega
              have i3 : decide (((ra1.length : Nat) : Int) < (ra1.length : Int)) = false := decide_eq_false (by omega)
              go_wp2
              clear x0 x1 x2 x3 xf0 xf1 xf2 xf3
              clear y0 y1 y2 y3 yf0 yf1 yf2 yf3
              have n0_ := Aside0.mk (blk_below B12.out HL.out)
              have n1_ := Aside0.mk (Kd.C_below CY.out HL.out)
              have n2_ := Aside0.mk (cell_below EX.out HL.out)
              have n3_ := Aside0.mk (blk_below B5.out HL.out)
              have n4_ := Aside0.mk (below_step HB.out HL.out)
              have n5_ := Aside0.mk (Kd.C_below Ca.out HL.out)
              have n6_ := Aside0.mk (blk_below B13.out HL.out)
              have n7_ := Aside0.mk (Kd.C_below Cb.out HL.out)
              have n8_ := Aside0.mk (blk_below B16.out HL.out)
              have n9_ := Aside0.mk (blk_below B19.out HL.out)
              have n10_ := Aside0.mk (Kd.C_below CC.out HL.out)
              have n11_ := Aside0.mk (Kd.C_below Cd.out HL.out)
              have n12_ := Aside0.mk (blk_below B22.out HL.out)
              clear B22 Cd CC B19 B16 Cb B13 Ca HB B5 EX CY B12
              have B12 := n0_
              have CY := n1_
              have EX := n2_
              have B5 := n3_
              have HB := n4_
              have Ca := n5_
              have B13 := n6_
              have Cb := n7_
              have B16 := n8_
              have B19 := n9_
              have CC := n10_
              have Cd := n11_
              have B22 := n12_
              clear n0_ n1_ n2_ n3_ n4_ n5_ n6_ n7_ n8_ n9_ n10_ n11_ n12_
              clear HL i3 hi hk
              go_cut [26] (fun v26 w' => v26 = .bool true ∧ Aside0 (Below wr.heap.size wr w'))
              case first =>
                have hbd : Below wr.heap.size wr wr.drew := (Below.refl _ _).drew
                have n0_ := Aside0.mk (blk_below B12.out hbd)
                have n1_ := Aside0.mk (Kd.C_below CY.out hbd)
                have n2_ := Aside0.mk (cell_below EX.out hbd)
                have n3_ := Aside0.mk (blk_below B5.out hbd)
                have n4_ := Aside0.mk (below_step HB.out hbd)
                have n5_ := Aside0.mk (Kd.C_below Ca.out hbd)
                have n6_ := Aside0.mk (blk_below B13.out hbd)
                have n7_ := Aside0.mk (Kd.C_below Cb.out hbd)
                have n8_ := Aside0.mk (blk_below B16.out hbd)
                have n9_ := Aside0.mk (blk_below B19.out hbd)
                have n10_ := Aside0.mk (Kd.C_below CC.out hbd)
                have n11_ := Aside0.mk (Kd.C_below Cd.out hbd)
                have n12_ := Aside0.mk (blk_below B22.out hbd)
                clear B22 Cd CC B19 B16 Cb B13 Ca HB B5 EX CY B12
                have B12 := n0_
                have CY := n1_
                have EX := n2_
                have B5 := n3_
                have HB := n4_
                have Ca := n5_
                have B13 := n6_
                have Cb := n7_
                have B16 := n8_
                have B19 := n9_
                have CC := n10_
                have Cd := n11_
                have B22 := n12_
                clear n0_ n1_ n2_ n3_ n4_ n5_ n6_ n7_ n8_ n9_ n10_ n11_ n12_
                refine start_ (n := 20) (S := fun w' => w'.cell? ⟨g12, 0, none⟩ = some (.slice (some ⟨gy, 0, none⟩) l0_0.length cy) ∧ w'.cell? ⟨g12, 1, none⟩ = some (.int .i64 a0_1) ∧ w'.cell? ⟨g12, 2, none⟩ = some (.int .i64 a0_2) ∧ w'.cell? ⟨g12, 3, none⟩ = some (.int .i64 a0_3) ∧ w'.cell? ⟨g5, 0, none⟩ = some (.slice A0_0 l0_0.length c0_0) ∧ w'.cell? ⟨g5, 1, none⟩ = some (.int .i64 a0_1) ∧ w'.cell? ⟨g5, 2, none⟩ = some (.int .i64 a0_2) ∧ w'.cell? ⟨g5, 3, none⟩ = some (.int .i64 a0_3) ∧ w'.cell? ⟨gy, l0_0.length * 4, none⟩ = some (.int .i64 (-71))) (ds := []) #[false, false, false, false, false, false, false, false, false, false, false, false, false, false, false, false, false, false, false, false] (by kernel_rfl) rfl rfl ⟨(blk_cell (B12.out) 0).trans rfl, (blk_cell (B12.out) 1).trans rfl, (blk_cell (B12.out) 2).trans rfl, (blk_cell (B12.out) 3).trans rfl, (blk_cell (B5.out) 0).trans rfl, (blk_cell (B5.out) 1).trans rfl, (blk_cell (B5.out) 2).trans rfl, (blk_cell (B5.out) 3).trans rfl, EX.out⟩ (fun hHeld => ?_)
                generalize wr.drew = wq at B12 CY EX B5 HB Ca B13 Cb B16 B19 CC Cd B22 hbd hHeld ⊢
                obtain ⟨i0_, hi0, _, hsz0, _⟩ := info_parts info52
                have hcut := cut_upto (P := Try.prog) 48 52 .i64 Try.underlying48 hi0 (some ⟨gy, 0, none⟩) l0_0.length cy ((l0_0.length : Int) + 1) (by omega) (by have := HCY.out; omega)
                rw [show ((l0_0.length : Int) + 1).toNat = l0_0.length + 1 from by omega] at hcut
                clear hi0 hsz0
                have j0 : (0 ≤ (l0_0.length : Int)) = True := eq_true (by omega)
                have j1 : ((l0_0.length : Int) < (l0_0.length : Int) + 1) = True := eq_true (by omega)
                have j2 : (l0_0.length < l0_0.length + 1) = True := eq_true (by omega)
                have j3 : wrap64 ((l0_0.length : Int) + 1) = (l0_0.length : Int) + 1 := by have := H4.out; unfold wrap64; omega
                have j4 : IntKind.i64.wrap ((l0_0.length : Int) + 1) = (l0_0.length : Int) + 1 := by rw [IntKind.wrap_i64]; have := H4.out; omega
                have j5 : (⟨gy, 0, none⟩ : Addr).add (l0_0.length * 4) = ⟨gy, l0_0.length * 4, none⟩ := add_plain _ _
                refine take_ (i := 0) (N := (some 118)) (v := ?_) (a' := ?_) #[true, false, false, false, false, false, false, false, false, false, false, false, false, false, false, false, false, false, false, false] rfl rfl (by kernel_rfl) (fun _ _ _ h => h) (Or.inl ⟨by rfl, ?_⟩) hHeld ?_ ?_
                rotate_left
                · rintro w' ⟨s0, s1, s2, s3, s4, s5, s6, s7, s8⟩
                  go_simp
                  with_reducible rfl
                rotate_left
                · simp only [Act.put, List.setIfInBounds_toArray, List.set_cons_zero, List.set_cons_succ, i64_w, i32_w]
                  rfl
                refine take_ (i := 1) (N := (some 119)) (v := ?_) (a' := ?_) #[true, true, false, false, false, false, false, false, false, false, false, false, false, false, false, false, false, false, false, false] rfl rfl (by kernel_rfl) (fun _ _ _ h => h) (Or.inl ⟨by rfl, ?_⟩) hHeld ?_ ?_
                rotate_left
                · rintro w' ⟨s0, s1, s2, s3, s4, s5, s6, s7, s8⟩
                  go_simp
                  with_reducible rfl
                rotate_left
                · simp only [Act.put, List.setIfInBounds_toArray, List.set_cons_zero, List.set_cons_succ, i64_w, i32_w]
                  rfl
                refine one_ (i := 2) (N := (some 120)) #[true, true, true, false, false, false, false, false, false, false, false, false, false, false, false, false, false, false, false, false] rfl rfl (by kernel_rfl) (by decide) (fun K hK => ?_)
                refine goes_ Try.func35 (by kernel_rfl) rfl #[.agg #[.slice (some ⟨gy, 0, none⟩) l0_0.length cy, .int .i64 a0_1, .int .i64 a0_2, .int .i64 a0_3], .agg #[.slice A0_0 l0_0.length c0_0, .int .i64 a0_1, .int .i64 a0_2, .int .i64 a0_3]] (by rfl) rfl rfl (by first | (simp; done) | ((try simp only [List.map_toArray, List.map_cons, List.map_nil]); first | done | rfl)) ?_
                (with_reducible refine (lysimeterref16_SameManifest.calls k _ _ l0_0 a0_1 a0_2 a0_3 _ _ l0_0 a0_1 a0_2 a0_3 true _ ?side1 ?side2 ?side3 ?side4 FS1.out).mono ?_)
                (case side1 => exact CY.out)
                (case side2 => have := HCY.out; omega)
                (case side3 => exact Kd.C_below CM.out HB.out)
                (case side4 => exact HC0_0.out)
                rintro e wz ⟨rfl, hb_⟩
                refine ⟨_, rfl, ?_⟩
                refine hK.out _ _ ⟨(blk_cell (blk_below B12.out hb_) 0).trans rfl, (blk_cell (blk_below B12.out hb_) 1).trans rfl, (blk_cell (blk_below B12.out hb_) 2).trans rfl, (blk_cell (blk_below B12.out hb_) 3).trans rfl, (blk_cell (blk_below B5.out hb_) 0).trans rfl, (blk_cell (blk_below B5.out hb_) 1).trans rfl, (blk_cell (blk_below B5.out hb_) 2).trans rfl, (blk_cell (blk_below B5.out hb_) 3).trans rfl, cell_below EX.out hb_⟩ (fun hHeld => ?_)
                clear hK K
                refine norm_ (a' := ?_) ?_ ?_
                rotate_left
                · show Act.put _ (some 120) _ = _
                  simp only [Act.put, List.setIfInBounds_toArray, List.set_cons_zero, List.set_cons_succ, i64_w, i32_w]
                  rfl
                refine pure_ (i := 3) (N := (some 121)) (v := ?_) (a' := ?_) #[true, true, true, true, false, false, false, false, false, false, false, false, false, false, false, false, false, false, false, false] rfl rfl (by kernel_rfl) (fun _ _ _ h => h) (Or.inl ⟨by rfl, ?_⟩) ?_ ?_
                rotate_left
                · intro w'
                  go_simp
                  with_reducible rfl
                rotate_left
                · simp only [Act.put, List.setIfInBounds_toArray, List.set_cons_zero, List.set_cons_succ, i64_w, i32_w]
                  rfl
                refine pure_ (i := 4) (N := (some 122)) (v := ?_) (a' := ?_) #[true, true, true, true, true, false, false, false, false, false, false, false, false, false, false, false, false, false, false, false] rfl rfl (by kernel_rfl) (fun _ _ _ h => h) (Or.inl ⟨by rfl, ?_⟩) ?_ ?_
                rotate_left
                · intro w'
                  go_simp
                  with_reducible rfl
                rotate_left
                · simp only [Act.put, List.setIfInBounds_toArray, List.set_cons_zero, List.set_cons_succ, i64_w, i32_w]
                  rfl
                refine take_ (i := 5) (N := (some 123)) (v := ?_) (a' := ?_) #[true, true, true, true, true, true, false, false, false, false, false, false, false, false, false, false, false, false, false, false] rfl rfl (by kernel_rfl) (fun _ _ _ h => h) (Or.inl ⟨by rfl, ?_⟩) hHeld ?_ ?_
                rotate_left
                · rintro w' ⟨s0, s1, s2, s3, s4, s5, s6, s7, s8⟩
                  go_simp
                  with_reducible rfl
                rotate_left
                · simp only [Act.put, List.setIfInBounds_toArray, List.set_cons_zero, List.set_cons_succ, i64_w, i32_w]
                  rfl
                refine pure_ (i := 6) (N := (some 124)) (v := ?_) (a' := ?_) #[true, true, true, true, true, true, true, false, false, false, false, false, false, false, false, false, false, false, false, false] rfl rfl (by kernel_rfl) (fun _ _ _ h => h) (Or.inl ⟨by rfl, ?_⟩) ?_ ?_
                rotate_left
                · intro w'
                  go_simp
                  with_reducible rfl
                rotate_left
                · simp only [Act.put, List.setIfInBounds_toArray, List.set_cons_zero, List.set_cons_succ, i64_w, i32_w]
                  rfl
                refine take_ (i := 7) (N := (some 125)) (v := ?_) (a' := ?_) #[true, true, true, true, true, true, true, true, false, false, false, false, false, false, false, false, false, false, false, false] rfl rfl (by kernel_rfl) (fun _ _ _ h => h) (Or.inl ⟨by rfl, ?_⟩) hHeld ?_ ?_
                rotate_left
                · rintro w' ⟨s0, s1, s2, s3, s4, s5, s6, s7, s8⟩
                  go_simp
                  with_reducible rfl
                rotate_left
                · simp only [Act.put, List.setIfInBounds_toArray, List.set_cons_zero, List.set_cons_succ, i64_w, i32_w]
                  rfl
                refine pure_ (i := 8) (N := (some 126)) (v := ?_) (a' := ?_) #[true, true, true, true, true, true, true, true, true, false, false, false, false, false, false, false, false, false, false, false] rfl rfl (by kernel_rfl) (fun _ _ _ h => h) (Or.inl ⟨by rfl, ?_⟩) ?_ ?_
                rotate_left
                · intro w'
                  go_simp
                  with_reducible rfl
                rotate_left
                · simp only [Act.put, List.setIfInBounds_toArray, List.set_cons_zero, List.set_cons_succ, i64_w, i32_w]
                  rfl
                refine pure_ (i := 9) (N := (some 127)) (v := ?_) (a' := ?_) #[true, true, true, true, true, true, true, true, true, true, false, false, false, false, false, false, false, false, false, false] rfl rfl (by kernel_rfl) (fun _ _ _ h => h) (Or.inl ⟨by rfl, ?_⟩) ?_ ?_
                rotate_left
                · intro w'
                  go_simp
                  with_reducible rfl
                rotate_left
                · simp only [Act.put, List.setIfInBounds_toArray, List.set_cons_zero, List.set_cons_succ, i64_w, i32_w]
                  rfl
                refine pure_ (i := 10) (N := (some 128)) (v := ?_) (a' := ?_) #[true, true, true, true, true, true, true, true, true, true, true, false, false, false, false, false, false, false, false, false] rfl rfl (by kernel_rfl) (fun _ _ _ h => h) (Or.inl ⟨by rfl, ?_⟩) ?_ ?_
                rotate_left
                · intro w'
                  go_simp
                  with_reducible rfl
                rotate_left
                · simp only [Act.put, List.setIfInBounds_toArray, List.set_cons_zero, List.set_cons_succ, i64_w, i32_w]
                  rfl
                refine pure_ (i := 11) (N := (some 129)) (v := ?_) (a' := ?_) #[true, true, true, true, true, true, true, true, true, true, true, true, false, false, false, false, false, false, false, false] rfl rfl (by kernel_rfl) (fun _ _ _ h => h) (Or.inl ⟨by rfl, ?_⟩) ?_ ?_
                rotate_left
                · intro w'
                  go_simp
                  with_reducible rfl
                rotate_left
                · simp only [Act.put, List.setIfInBounds_toArray, List.set_cons_zero, List.set_cons_succ, i64_w, i32_w]
                  rfl
                refine take_ (i := 12) (N := (some 130)) (v := ?_) (a' := ?_) #[true, true, true, true, true, true, true, true, true, true, true, true, true, false, false, false, false, false, false, false] rfl rfl (by kernel_rfl) (fun _ _ _ h => h) (Or.inl ⟨by rfl, ?_⟩) hHeld ?_ ?_
                rotate_left
                · rintro w' ⟨s0, s1, s2, s3, s4, s5, s6, s7, s8⟩
                  go_simp
                  with_reducible rfl
                rotate_left
                · simp only [Act.put, List.setIfInBounds_toArray, List.set_cons_zero, List.set_cons_succ, i64_w, i32_w]
                  rfl
                refine pure_ (i := 13) (N := (some 131)) (v := ?_) (a' := ?_) #[true, true, true, true, true, true, true, true, true, true, true, true, true, true, false, false, false, false, false, false] rfl rfl (by kernel_rfl) (fun _ _ _ h => h) (Or.inl ⟨by rfl, ?_⟩) ?_ ?_
                rotate_left
                · intro w'
                  go_simp
                  with_reducible rfl
                rotate_left
                · simp only [Act.put, List.setIfInBounds_toArray, List.set_cons_zero, List.set_cons_succ, i64_w, i32_w]
                  rfl
                refine pure_ (i := 14) (N := (some 132)) (v := ?_) (a' := ?_) #[true, true, true, true, true, true, true, true, true, true, true, true, true, true, true, false, false, false, false, false] rfl rfl (by kernel_rfl) (fun _ _ _ h => h) (Or.inl ⟨by rfl, ?_⟩) ?_ ?_
                rotate_left
                · intro w'
                  go_simp
                  with_reducible rfl
                rotate_left
                · simp only [Act.put, List.setIfInBounds_toArray, List.set_cons_zero, List.set_cons_succ, i64_w, i32_w]
                  rfl
                refine pure_ (i := 15) (N := (some 133)) (v := ?_) (a' := ?_) #[true, true, true, true, true, true, true, true, true, true, true, true, true, true, true, true, false, false, false, false] rfl rfl (by kernel_rfl) (fun _ _ _ h => h) (Or.inl ⟨by rfl, ?_⟩) ?_ ?_
                rotate_left
                · intro w'
                  go_simp
                  with_reducible rfl
                rotate_left
                · simp only [Act.put, List.setIfInBounds_toArray, List.set_cons_zero, List.set_cons_succ, i64_w, i32_w]
                  rfl
                refine take_ (i := 16) (N := (some 134)) (v := ?_) (a' := ?_) #[true, true, true, true, true, true, true, true, true, true, true, true, true, true, true, true, true, false, false, false] rfl rfl (by kernel_rfl) (fun _ _ _ h => h) (Or.inl ⟨by rfl, ?_⟩) hHeld ?_ ?_
                rotate_left
                · rintro w' ⟨s0, s1, s2, s3, s4, s5, s6, s7, s8⟩
                  go_simp
                  with_reducible rfl
                rotate_left
                · simp only [Act.put, List.setIfInBounds_toArray, List.set_cons_zero, List.set_cons_succ, i64_w, i32_w]
                  rfl
                refine pure_ (i := 17) (N := (some 135)) (v := ?_) (a' := ?_) #[true, true, true, true, true, true, true, true, true, true, true, true, true, true, true, true, true, true, false, false] rfl rfl (by kernel_rfl) (fun _ _ _ h => h) (Or.inl ⟨by rfl, ?_⟩) ?_ ?_
                rotate_left
                · intro w'
                  go_simp
                  with_reducible rfl
                rotate_left
                · simp only [Act.put, List.setIfInBounds_toArray, List.set_cons_zero, List.set_cons_succ, i64_w, i32_w]
                  rfl
                refine pure_ (i := 18) (N := (some 136)) (v := ?_) (a' := ?_) #[true, true, true, true, true, true, true, true, true, true, true, true, true, true, true, true, true, true, true, false] rfl rfl (by kernel_rfl) (fun _ _ _ h => h) (Or.inl ⟨by rfl, ?_⟩) ?_ ?_
                rotate_left
                · intro w'
                  go_simp
                  with_reducible rfl
                rotate_left
                · simp only [Act.put, List.setIfInBounds_toArray, List.set_cons_zero, List.set_cons_succ, i64_w, i32_w]
                  rfl
                refine pure_ (i := 19) (N := (some 26)) (v := ?_) (a' := ?_) #[true, true, true, true, true, true, true, true, true, true, true, true, true, true, true, true, true, true, true, true] rfl rfl (by kernel_rfl) (fun _ _ _ h => h) (Or.inl ⟨by rfl, ?_⟩) ?_ ?_
                rotate_left
                · intro w'
                  go_simp
                  with_reducible rfl
                rotate_left
                · simp only [Act.put, List.setIfInBounds_toArray, List.set_cons_zero, List.set_cons_succ, i64_w, i32_w]
                  rfl
                refine done_ (by kernel_rfl) ?_
                go_wp2_with fail
                go_meet
                exact ⟨rfl, ⟨below_step hbd hb_⟩⟩
              case rest =>
                obtain ⟨rfl, HBB⟩ := hcut
                have n0_ := Aside0.mk (blk_below B12.out HBB.out)
                have n1_ := Aside0.mk (Kd.C_below CY.out HBB.out)
                have n2_ := Aside0.mk (cell_below EX.out HBB.out)
                have n3_ := Aside0.mk (blk_below B5.out HBB.out)
                have n4_ := Aside0.mk (below_step HB.out HBB.out)
                have n5_ := Aside0.mk (Kd.C_below Ca.out HBB.out)
                have n6_ := Aside0.mk (blk_below B13.out HBB.out)
                have n7_ := Aside0.mk (Kd.C_below Cb.out HBB.out)
                have n8_ := Aside0.mk (blk_below B16.out HBB.out)
                have n9_ := Aside0.mk (blk_below B19.out HBB.out)
                have n10_ := Aside0.mk (Kd.C_below CC.out HBB.out)
                have n11_ := Aside0.mk (Kd.C_below Cd.out HBB.out)
                have n12_ := Aside0.mk (blk_below B22.out HBB.out)
                clear B22 Cd CC B19 B16 Cb B13 Ca HB B5 EX CY B12
                have B12 := n0_
                have CY := n1_
                have EX := n2_
                have B5 := n3_
                have HB := n4_
                have Ca := n5_
                have B13 := n6_
                have Cb := n7_
                have B16 := n8_
                have B19 := n9_
                have CC := n10_
                have Cd := n11_
                have B22 := n12_
                clear n0_ n1_ n2_ n3_ n4_ n5_ n6_ n7_ n8_ n9_ n10_ n11_ n12_
                clear HBB
                have x0 : wc.cell? ⟨g13, 0, none⟩ = some (.slice Aa ra1.length ca) := (blk_cell B13.out 0).trans rfl
                have x1 : wc.cell? ⟨g13, 1, none⟩ = some (.int .i64 ra2) := (blk_cell B13.out 1).trans rfl
                have x2 : wc.cell? ⟨g13, 2, none⟩ = some (.int .i64 ra3) := (blk_cell B13.out 2).trans rfl
                have x3 : wc.cell? ⟨g13, 3, none⟩ = some (.int .i64 ra4) := (blk_cell B13.out 3).trans rfl
                have xf0 := blk_frozen B13.out 0
                have xf1 := blk_frozen B13.out 1
                have xf2 := blk_frozen B13.out 2
                have xf3 := blk_frozen B13.out 3
                have y0 : wc.cell? ⟨g16, 0, none⟩ = some (.slice Ab ra1.length cb) := (blk_cell B16.out 0).trans rfl
                have y1 : wc.cell? ⟨g16, 1, none⟩ = some (.int .i64 rb2) := (blk_cell B16.out 1).trans rfl
                have y2 : wc.cell? ⟨g16, 2, none⟩ = some (.int .i64 rb3) := (blk_cell B16.out 2).trans rfl
                have y3 : wc.cell? ⟨g16, 3, none⟩ = some (.int .i64 rb4) := (blk_cell B16.out 3).trans rfl
                have yf0 := blk_frozen B16.out 0
                have yf1 := blk_frozen B16.out 1
                have yf2 := blk_frozen B16.out 2
                have yf3 := blk_frozen B16.out 3
                go_wp2_with (first | ((with_reducible refine gate_callee (f := 36) rfl ?_); (try (refine gate_guard (by rfl) ?_; dsimp only)); refine goesL_ (some 140) rfl rfl Try.func36 (by kernel_rfl) rfl #[.int .i64 ra6] rfl (by first | (simp; done) | ((try simp only [List.map_toArray, List.map_cons, List.map_nil]); first | done | rfl)) ?_; (with_reducible refine (lysimeterlaw17_num.calls ra6 ra6 _ rfl).mono ?_); rintro e wn1 ⟨rfl, hb_⟩; refine ⟨_, rfl, ?_⟩; have hbb := hb_.below; clear hb_; have n0_ := Aside0.mk (blk_below B12.out hbb); have n1_ := Aside0.mk (Kd.C_below CY.out hbb); have n2_ := Aside0.mk (cell_below EX.out hbb); have n3_ := Aside0.mk (blk_below B5.out hbb); have n4_ := Aside0.mk (below_step HB.out hbb); have n5_ := Aside0.mk (Kd.C_below Ca.out hbb); have n6_ := Aside0.mk (blk_below B13.out hbb); have n7_ := Aside0.mk (Kd.C_below Cb.out hbb); have n8_ := Aside0.mk (blk_below B16.out hbb); have n9_ := Aside0.mk (blk_below B19.out hbb); have n10_ := Aside0.mk (Kd.C_below CC.out hbb); have n11_ := Aside0.mk (Kd.C_below Cd.out hbb); have n12_ := Aside0.mk (blk_below B22.out hbb); clear B22 Cd CC B19 B16 Cb B13 Ca HB B5 EX CY B12; have B12 := n0_; have CY := n1_; have EX := n2_; have B5 := n3_; have HB := n4_; have Ca := n5_; have B13 := n6_; have Cb := n7_; have B16 := n8_; have B19 := n9_; have CC := n10_; have Cd := n11_; have B22 := n12_; clear n0_ n1_ n2_ n3_ n4_ n5_ n6_ n7_ n8_ n9_ n10_ n11_ n12_; clear hbb; clear x0 x1 x2 x3 xf0 xf1 xf2 xf3; clear y0 y1 y2 y3 yf0 yf1 yf2 yf3; have x0 : wn1.cell? ⟨g13, 0, none⟩ = some (.slice Aa ra1.length ca) := (blk_cell B13.out 0).trans rfl; have x1 : wn1.cell? ⟨g13, 1, none⟩ = some (.int .i64 ra2) := (blk_cell B13.out 1).trans rfl; have x2 : wn1.cell? ⟨g13, 2, none⟩ = some (.int .i64 ra3) := (blk_cell B13.out 2).trans rfl; have x3 : wn1.cell? ⟨g13, 3, none⟩ = some (.int .i64 ra4) := (blk_cell B13.out 3).trans rfl; have xf0 := blk_frozen B13.out 0; have xf1 := blk_frozen B13.out 1; have xf2 := blk_frozen B13.out 2; have xf3 := blk_frozen B13.out 3; have y0 : wn1.cell? ⟨g16, 0, none⟩ = some (.slice Ab ra1.length cb) := (blk_cell B16.out 0).trans rfl; have y1 : wn1.cell? ⟨g16, 1, none⟩ = some (.int .i64 rb2) := (blk_cell B16.out 1).trans rfl; have y2 : wn1.cell? ⟨g16, 2, none⟩ = some (.int .i64 rb3) := (blk_cell B16.out 2).trans rfl; have y3 : wn1.cell? ⟨g16, 3, none⟩ = some (.int .i64 rb4) := (blk_cell B16.out 3).trans rfl; have yf0 := blk_frozen B16.out 0; have yf1 := blk_frozen B16.out 1; have yf2 := blk_frozen B16.out 2; have yf3 := blk_frozen B16.out 3) | ((with_reducible refine gate_callee (f := 35) rfl ?_); (try (refine gate_guard (by rfl) ?_; dsimp only)); refine goesL_ (some 152) rfl rfl Try.func35 (by kernel_rfl) rfl #[.agg #[.slice Aa ra1.length ca, .int .i64 ra2, .int .i64 ra3, .int .i64 ra4], .agg #[.slice Ab ra1.length cb, .int .i64 rb2, .int .i64 rb3, .int .i64 rb4]] rfl (by first | (simp; done) | ((try simp only [List.map_toArray, List.map_cons, List.map_nil]); first | done | rfl)) ?_; (with_reducible refine (lysimeterref16_SameManifest.calls k _ _ ra1 ra2 ra3 ra4 _ _ ra1 rb2 rb3 rb4 true _ ?side1 ?side2 ?side3 ?side4 FS2.out).mono ?_); (case side1 => exact Ca.out); (case side2 => exact KKa.out); (case side3 => exact Cb.out); (case side4 => exact KKb.out); rintro e wn2 ⟨rfl, hb_⟩; refine ⟨_, rfl, ?_⟩; have n0_ := Aside0.mk (blk_below B12.out hb_); have n1_ := Aside0.mk (Kd.C_below CY.out hb_); have n2_ := Aside0.mk (cell_below EX.out hb_); have n3_ := Aside0.mk (blk_below B5.out hb_); have n4_ := Aside0.mk (below_step HB.out hb_); have n5_ := Aside0.mk (Kd.C_below Ca.out hb_); have n6_ := Aside0.mk (blk_below B13.out hb_); have n7_ := Aside0.mk (Kd.C_below Cb.out hb_); have n8_ := Aside0.mk (blk_below B16.out hb_); have n9_ := Aside0.mk (blk_below B19.out hb_); have n10_ := Aside0.mk (Kd.C_below CC.out hb_); have n11_ := Aside0.mk (Kd.C_below Cd.out hb_); have n12_ := Aside0.mk (blk_below B22.out hb_); clear B22 Cd CC B19 B16 Cb B13 Ca HB B5 EX CY B12; have B12 := n0_; have CY := n1_; have EX := n2_; have B5 := n3_; have HB := n4_; have Ca := n5_; have B13 := n6_; have Cb := n7_; have B16 := n8_; have B19 := n9_; have CC := n10_; have Cd := n11_; have B22 := n12_; clear n0_ n1_ n2_ n3_ n4_ n5_ n6_ n7_ n8_ n9_ n10_ n11_ n12_; clear hb_; clear x0 x1 x2 x3 xf0 xf1 xf2 xf3; clear y0 y1 y2 y3 yf0 yf1 yf2 yf3) | ((with_reducible refine gate_callee (f := 36) rfl ?_); (try (refine gate_guard (by rfl) ?_; dsimp only)); refine goesL_ (some 156) rfl rfl Try.func36 (by kernel_rfl) rfl #[.int .i64 rc6] rfl (by first | (simp; done) | ((try simp only [List.map_toArray, List.map_cons, List.map_nil]); first | done | rfl)) ?_; (with_reducible refine (lysimeterlaw17_num.calls rc6 rc6 _ rfl).mono ?_); rintro e wn3 ⟨rfl, hb_⟩; refine ⟨_, rfl, ?_⟩; have hbb := hb_.below; clear hb_; have n0_ := Aside0.mk (blk_below B12.out hbb); have n1_ := Aside0.mk (Kd.C_below CY.out hbb); have n2_ := Aside0.mk (cell_below EX.out hbb); have n3_ := Aside0.mk (blk_below B5.out hbb); have n4_ := Aside0.mk (below_step HB.out hbb); have n5_ := Aside0.mk (Kd.C_below Ca.out hbb); have n6_ := Aside0.mk (blk_below B13.out hbb); have n7_ := Aside0.mk (Kd.C_below Cb.out hbb); have n8_ := Aside0.mk (blk_below B16.out hbb); have n9_ := Aside0.mk (blk_below B19.out hbb); have n10_ := Aside0.mk (Kd.C_below CC.out hbb); have n11_ := Aside0.mk (Kd.C_below Cd.out hbb); have n12_ := Aside0.mk (blk_below B22.out hbb); clear B22 Cd CC B19 B16 Cb B13 Ca HB B5 EX CY B12; have B12 := n0_; have CY := n1_; have EX := n2_; have B5 := n3_; have HB := n4_; have Ca := n5_; have B13 := n6_; have Cb := n7_; have B16 := n8_; have B19 := n9_; have CC := n10_; have Cd := n11_; have B22 := n12_; clear n0_ n1_ n2_ n3_ n4_ n5_ n6_ n7_ n8_ n9_ n10_ n11_ n12_; clear hbb; have x0 : wn3.cell? ⟨g19, 0, none⟩ = some (.slice Ac rc1.length cc) := (blk_cell B19.out 0).trans rfl; have x1 : wn3.cell? ⟨g19, 1, none⟩ = some (.int .i64 rc2) := (blk_cell B19.out 1).trans rfl; have x2 : wn3.cell? ⟨g19, 2, none⟩ = some (.int .i64 rc3) := (blk_cell B19.out 2).trans rfl; have x3 : wn3.cell? ⟨g19, 3, none⟩ = some (.int .i64 rc4) := (blk_cell B19.out 3).trans rfl; have xf0 := blk_frozen B19.out 0; have xf1 := blk_frozen B19.out 1; have xf2 := blk_frozen B19.out 2; have xf3 := blk_frozen B19.out 3; have y0 : wn3.cell? ⟨g22, 0, none⟩ = some (.slice Ad rd1.length cd) := (blk_cell B22.out 0).trans rfl; have y1 : wn3.cell? ⟨g22, 1, none⟩ = some (.int .i64 rd2) := (blk_cell B22.out 1).trans rfl; have y2 : wn3.cell? ⟨g22, 2, none⟩ = some (.int .i64 rd3) := (blk_cell B22.out 2).trans rfl; have y3 : wn3.cell? ⟨g22, 3, none⟩ = some (.int .i64 rd4) := (blk_cell B22.out 3).trans rfl; have yf0 := blk_frozen B22.out 0; have yf1 := blk_frozen B22.out 1; have yf2 := blk_frozen B22.out 2; have yf3 := blk_frozen B22.out 3) | ((with_reducible refine gate_callee (f := 35) rfl ?_); (try (refine gate_guard (by rfl) ?_; dsimp only)); refine goesL_ (some 168) rfl rfl Try.func35 (by kernel_rfl) rfl #[.agg #[.slice Ac rc1.length cc, .int .i64 rc2, .int .i64 rc3, .int .i64 rc4], .agg #[.slice Ad rd1.length cd, .int .i64 rd2, .int .i64 rd3, .int .i64 rd4]] rfl (by first | (simp; done) | ((try simp only [List.map_toArray, List.map_cons, List.map_nil]); first | done | rfl)) ?_; (with_reducible refine (lysimeterref16_SameManifest.calls k _ _ rc1 rc2 rc3 rc4 _ _ rd1 rd2 rd3 rd4 true _ ?side1 ?side2 ?side3 ?side4 FS3.out).mono ?_); (case side1 => exact CC.out); (case side2 => exact KKc.out); (case side3 => exact Cd.out); (case side4 => exact KKd.out); rintro e wn4 ⟨rfl, hb_⟩; refine ⟨_, rfl, ?_⟩; have n0_ := Aside0.mk (blk_below B12.out hb_); have n1_ := Aside0.mk (Kd.C_below CY.out hb_); have n2_ := Aside0.mk (cell_below EX.out hb_); have n3_ := Aside0.mk (blk_below B5.out hb_); have n4_ := Aside0.mk (below_step HB.out hb_); have n5_ := Aside0.mk (Kd.C_below Ca.out hb_); have n6_ := Aside0.mk (blk_below B13.out hb_); have n7_ := Aside0.mk (Kd.C_below Cb.out hb_); have n8_ := Aside0.mk (blk_below B16.out hb_); have n9_ := Aside0.mk (blk_below B19.out hb_); have n10_ := Aside0.mk (Kd.C_below CC.out hb_); have n11_ := Aside0.mk (Kd.C_below Cd.out hb_); have n12_ := Aside0.mk (blk_below B22.out hb_); clear B22 Cd CC B19 B16 Cb B13 Ca HB B5 EX CY B12; have B12 := n0_; have CY := n1_; have EX := n2_; have B5 := n3_; have HB := n4_; have Ca := n5_; have B13 := n6_; have Cb := n7_; have B16 := n8_; have B19 := n9_; have CC := n10_; have Cd := n11_; have B22 := n12_; clear n0_ n1_ n2_ n3_ n4_ n5_ n6_ n7_ n8_ n9_ n10_ n11_ n12_; clear hb_) | go_in)
                go_ret
                exact ⟨rfl, HB.out⟩
  · rw [if_neg hal] at h
    cases h
end

/-- The one pure statement of lysimeterlaw17_ManifestTurns. -/
def lysimeterlaw17_ManifestTurns.Pure : Prop := ∀ (l0_0 : List (S52)) (a0_1 : Int) (a0_2 : Int) (a0_3 : Int) (l1 : List Int) (a2 : Int) (a3 : Int) (a4 : Int), (l0_0.length ≤ maxLen ∧ ∀ y0_ ∈ l0_0, ((Lit.int .i64 y0_.f0).wf = true ∧ (Lit.int .i64 y0_.f1).wf = true ∧ (Lit.int .i64 y0_.f2).wf = true ∧ (Lit.int .i64 y0_.f3).wf = true)) → (Lit.int .i64 a0_1).wf = true → (Lit.int .i64 a0_2).wf = true → (Lit.int .i64 a0_3).wf = true → l1.length ≤ maxLen → l1.length * 8 ≤ 140737488351232 → (∀ x ∈ l1, (Lit.int .i64 x).wf = true) → (Lit.int .i64 a2).wf = true → (Lit.int .i64 a3).wf = true → (Lit.int .i64 a4).wf = true → ∃ k, lysimeterlaw17_ManifestTurns.f k l0_0 a0_1 a0_2 a0_3 l1 a2 a3 a4 = some true
theorem lysimeterlaw17_ManifestTurns.walk (P : lysimeterlaw17_ManifestTurns.Pure) (A0_0 : Option Addr) (c0_0 : Nat) (l0_0 : List (S52)) (a0_1 : Int) (a0_2 : Int) (a0_3 : Int) (a1 : Option Addr) (len1 cap1 : Nat) (z1 : List Int) (a2 : Int) (a3 : Int) (a4 : Int) (w : World) (hr0_0 : Kd.C k52 w A0_0 l0_0.length l0_0) (hc0_0 : l0_0.length ≤ c0_0) (g0_0 : (l0_0.length ≤ maxLen ∧ ∀ y0_ ∈ l0_0, ((Lit.int .i64 y0_.f0).wf = true ∧ (Lit.int .i64 y0_.f1).wf = true ∧ (Lit.int .i64 y0_.f2).wf = true ∧ (Lit.int .i64 y0_.f3).wf = true))) (g0_1 : (Lit.int .i64 a0_1).wf = true) (g0_2 : (Lit.int .i64 a0_2).wf = true) (g0_3 : (Lit.int .i64 a0_3).wf = true) (w1 : (a1 = none ∧ len1 = 0 ∧ cap1 = 0 ∧ z1 = []) ∨ ∃ x, a1 = some x ∧ len1 ≤ cap1 ∧ cap1 ≤ maxLen ∧ z1.length = cap1 ∧ (∀ i, i < z1.length → w.cell? (x.add i) = some (.int .i64 (z1.getD i 0))) ∧ ∀ n ∈ z1, (Lit.int .i64 n).wf = true) (y1 : len1 * 8 ≤ 140737488351232) (w2 : (Lit.int .i64 a2).wf = true) (w3 : (Lit.int .i64 a3).wf = true) (w4 : (Lit.int .i64 a4).wf = true) :
    Calls Try.prog 8 #[.agg #[.slice A0_0 l0_0.length c0_0, .int .i64 a0_1, .int .i64 a0_2, .int .i64 a0_3], .slice a1 len1 cap1, .int .i64 a2, .int .i64 a3, .int .i64 a4] w fun e w' => e = .returned (.bool true) ∧ Below w.heap.size w w' := by
  obtain ⟨l1, rfl, hr1, hm1, hw1, hc1⟩ := ReadsInt.ofRowC w1
  obtain ⟨k, h⟩ := P l0_0 a0_1 a0_2 a0_3 l1 a2 a3 a4 g0_0 g0_1 g0_2 g0_3 hm1 y1 hw1 w2 w3 w4
  refine (lysimeterlaw17_ManifestTurns.calls k _ _ l0_0 a0_1 a0_2 a0_3 _ _ l1 a2 a3 a4 true w hr0_0 hc0_0 (Kd.C_of_reads (d := (0 : Int)) (h1 := fun _ => rfl) hr1) hc1 rfl h).mono ?_
  rintro e w' ⟨rfl, hd⟩
  exact ⟨rfl, hd⟩

end Go.Proofs.Ytjilnpbgclnecab.PManifestTurns
