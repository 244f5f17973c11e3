/- Written by a program of this session out of the translation: for Go functions Lean functions of the same answers, and the proof that the calls come to these answers. -/
import Derived.Sort.BigQuietIn
import Derived.Maps.AppendAt
import Derived.Maps.OwnIn
import Derived.LoopIn
import Derived.LoopNIn
import Derived.TacticsInMore
import Derived.OwnWalkIn
import Derived.WalkKit
import Derived.Shelf.RegionOpen
import Derived.Shelf.Abstract
import Derived.RangeFuncLeaves
import Derived.RangeFuncCalls
import Derived.RangeFuncBound
import Derived.RangeFuncNested
import Derived.Sort.LoopGhostIn
import Derived.Test.YtjilnpbgclnecabXRange
import Derived.Test.YtjilnpbgclnecabPFrameRowsx0
import Derived.Test.YtjilnpbgclnecabPFrameRowsx1
import Derived.Test.YtjilnpbgclnecabPFrameRowsx2
namespace Go.Proofs.Ytjilnpbgclnecab.PFrameRows
open Go.RowKit Go.Proofs.YtjilnpbgclnecabW.PrintWords Go.Proofs.YtjilnpbgclnecabW.PrintLast Go.Proofs.YtjilnpbgclnecabW.PrintMore Go.Proofs.Ytjilnpbgclnecab.XB
attribute [local go_sem] sg_u8 sg_u16 sg_u32 sg_u64 mx_u8 mx_u16 mx_u32 mx_u64
attribute [local go_sem] max2_int min2_int max_two min_two max_three min_three max_four min_four   -- for this text's walks alone
set_option linter.unusedVariables false
set_option linter.unusedSimpArgs false

/-! ### frame_All: function 17 -/
def frame_All.l0 : Nat → List Int → List S34 → Int → Option (List S34 × Int)
  | 0, _, _, _ => none
  | k + 1, b, acc, at_ => (frame_Get.f k b).bind fun g =>
      if g.2.2.2 = 0 then (if 0 ≤ g.2.2.1 ∧ g.2.2.1 ≤ (b.length : Int) ∧ acc.length < 1000000000 then frame_All.l0 k (b.drop g.2.2.1.toNat) (acc ++ [⟨g.1, g.2.1⟩]) (wrap64 (at_ + g.2.2.1)) else none)
      else some (acc, at_)
def frame_All.f (k : Nat) (b : List Int) : Option (List S34 × Int) := frame_All.l0 k b [] 0
theorem frame_All.mono_l : ∀ k b acc at_, LeO (frame_All.l0 k b acc at_) (frame_All.l0 (k + 1) b acc at_)
  | 0, _, _, _ => LeO.none _
  | k + 1, b, acc, at_ => by
    unfold frame_All.l0
    exact LeO.bind (frame_Get.mono _ _) fun g => LeO.ite (LeO.ite (frame_All.mono_l k _ _ _) (LeO.refl _)) (LeO.refl _)
theorem frame_All.mono : ∀ b k, LeO (frame_All.f k b) (frame_All.f (k + 1) b) := fun b k => frame_All.mono_l k b [] 0
-- WALK
section
open Go.Proofs.Ytjilnpbgclnecab.XH Go.Shelf
/-- What holds between two rounds. g4, g5: the variables; l, d: the loop's record and its deferred calls. -/
structure frame_All.St (w : World) (g4 g5 l d : Nat) (rec : Obj) (acc : List S34) (at_ : Int) (W : World) : Prop where
  v : ∃ v4, W.heap[g4]? = some (.cells #[v4] 30 (0, 0)) ∧ Kd.R k34 34 W w.heap.size (fun _ => True) v4 acc
  a : W.heap[g5]? = some (.cells #[.int .i64 at_] 3 (0, 0))
  l : W.heap[l]? = some rec
  d : W.heap[d]? = some (.deferred (some []))
  b : Below w.heap.size w W
theorem frame_All.St.below {w : World} {g4 g5 l d : Nat} {rec : Obj} {acc : List S34} {at_ : Int} {W W' : World} (h : frame_All.St w g4 g5 l d rec acc at_ W) (hb : Below W.heap.size W W') : frame_All.St w g4 g5 l d rec acc at_ W' := by
  obtain ⟨⟨v4, hv, hr⟩, ha, hl, hd, hB⟩ := h
  exact ⟨⟨v4, blk_below hv hb, Kd.R_below hr hb⟩, blk_below ha hb, blk_below hl hb, blk_below hd hb, below_step hB hb⟩
theorem frame_All.St.put {w : World} {g4 g5 l d gb : Nat} {rec : Obj} {acc : List S34} {at_ : Int} {W : World} {cs : Array Value} (h : frame_All.St w g4 g5 l d rec acc at_ W) (hg : W.heap[gb]? = some (.cells cs 22 (0, 0))) (h4 : g4 ≠ gb) (h5 : g5 ≠ gb) (hl : l ≠ gb) (hd : d ≠ gb) (hb : w.heap.size ≤ gb) (u : Value) :
    frame_All.St w g4 g5 l d rec acc at_ (W.setCell ⟨gb, 0, none⟩ u) := by
  obtain ⟨⟨v4, hv, hr⟩, ha, hl', hd', hB⟩ := h
  have keep : ∀ k, k ≠ gb → (W.setCell ⟨gb, 0, none⟩ u).heap[k]? = W.heap[k]? := fun k hk => Below.heap_setCell W ⟨gb, 0, none⟩ u k hk
  refine ⟨⟨v4, (keep _ h4).trans hv, R_keep hr (fun q cs t ht hq => ?_)⟩, (keep _ h5).trans ha, (keep _ hl).trans hl', (keep _ hd).trans hd', hB.setCell (p := ⟨gb, 0, none⟩) hb u⟩
  have n : q ≠ gb := by
    intro he; rw [he, hg] at hq; injection hq with hq; injection hq with _ hq; exact absurd hq (by revert t; decide)
  exact (keep q n).trans hq
attribute [local go_sem] Oper.semAt_some
/-- frame.frames: the row is boxed, the function value holds the box. -/
theorem frame_All.frames_in (n : Nat) (A : Option Addr) (m c : Nat) (w : World) :
    CallsIn Fence.wide n Try.prog 54 #[.slice A m c] w fun e w' => e = .returned (.func (.func 79) #[] #[.pointer (some ⟨w.heap.size, 0, none⟩)]) ∧ w' = w.alloc (.cells #[.slice A m c] 22) := by
  refine callsIn_of_wp Try.func54 rfl trivial ?_ rfl
  simp only [Try.ntmps54, List.size_toArray, List.length_cons, List.length_nil, Nat.reduceAdd, Nat.reduceSub, Array.replicate_succ, Array.replicate_zero, List.push_toArray, List.append_toArray, List.nil_append, List.cons_append]
  gi_wp2
  go_ret
  exact ⟨rfl, rfl⟩
set_option maxHeartbeats 8000000 in
set_option maxRecDepth 100000 in
theorem frame_All.calls (k : Nat) (A0 : Option Addr) (c0 : Nat) (l0 : List Int) (r1 : List S34) (r2 : Int) (w : World) (hr0 : Kd.C (Kd.int .u8) w A0 l0.length l0) (hc0 : l0.length ≤ c0) (h : frame_All.f k l0 = some (r1, r2)) :
    Calls Try.prog 17 #[.slice A0 l0.length c0] w fun e w' => ∃ v0_ : Value, e = .returned (.tuple #[v0_, .int .i64 r2]) ∧ Kd.R k34 34 w' w.heap.size (fun _ => True) v0_ r1 ∧ Below w.heap.size w w' := by
  have CM := Aside0.mk hr0
  have HC := Aside0.mk hc0
  have H := Aside0.mk (show frame_All.l0 k l0 [] 0 = some (r1, r2) from h)
  clear hr0 hc0 h
  refine (callsIn_wide (n := 8)).1 ?_
  refine callsIn_of_wp_marks Try.func17 rfl trivial ?_ rfl
  simp only [Try.ntmps17, List.size_toArray, List.length_cons, List.length_nil, Nat.reduceAdd, Nat.reduceSub, Array.replicate_succ, Array.replicate_zero, List.push_toArray, List.append_toArray, List.nil_append, List.cons_append]
  gi_wp2_with (refine ⟨trivial, ?_⟩; gi_at_call 54; refine (frame_All.frames_in _ _ _ _ _).mono ?_; rintro e w' ⟨rfl, rfl⟩)
  obtain ⟨W0, hW0⟩ : ∃ W0, (((w.alloc (.cells #[.slice none 0 0] 30)).alloc (.cells #[.int .i64 0] 3)).alloc (.cells #[.slice A0 l0.length c0] 22)) = W0 := ⟨_, rfl⟩
  have hsz : W0.heap.size = w.heap.size + 3 := by rw [← hW0]; simp
  have hb0 : Below w.heap.size w W0 := by rw [← hW0]; exact (((Below.refl _ w).alloc (Nat.le_refl _) _).alloc (by simp) _).alloc (by simp; omega) _
  have x4 : W0.heap[w.heap.size]? = some (.cells #[.slice none 0 0] 30 (0, 0)) := by rw [← hW0]; exact blk_alloc (blk_alloc (blk_new w _) _) _
  have x5 : W0.heap[w.heap.size + 1]? = some (.cells #[.int .i64 0] 3 (0, 0)) := by rw [← hW0]; have z := blk_new (w.alloc (.cells #[.slice none 0 0] 30)) (.cells #[.int .i64 0] 3); rw [World.size_alloc] at z; exact blk_alloc z _
  have xb : W0.heap[w.heap.size + 1 + 1]? = some (.cells #[.slice A0 l0.length c0] 22 (0, 0)) := by rw [← hW0]; have z := blk_new ((w.alloc (.cells #[.slice none 0 0] 30)).alloc (.cells #[.int .i64 0] 3)) (.cells #[.slice A0 l0.length c0] 22); rw [World.size_alloc, World.size_alloc] at z; exact z
  rw [hW0]
  clear hW0
  obtain ⟨g4, e4⟩ : ∃ g, g = w.heap.size := ⟨_, rfl⟩
  obtain ⟨g5, e5⟩ : ∃ g, g = w.heap.size + 1 := ⟨_, rfl⟩
  obtain ⟨gb, eb⟩ : ∃ g, g = w.heap.size + 1 + 1 := ⟨_, rfl⟩
  obtain ⟨d, ed⟩ : ∃ d, d = W0.heap.size := ⟨_, rfl⟩
  rw [← e4] at x4
  rw [← e5] at x5
  rw [← eb] at xb
  rw [← eb, ← e5, ← e4]
  have E4 := Aside0.mk e4
  have E5 := Aside0.mk e5
  have EB := Aside0.mk eb
  have ED := Aside0.mk (show d = w.heap.size + 3 by omega)
  refine wpIn_range_rec (I := fun W2 => ∃ o : Loop, frame_All.St w g4 g5 (W0.heap.size + 1) W0.heap.size (.loop o) r1 r2 W2) rfl (by omega) (gf := 79) (lb := #[.pointer (some ⟨gb, 0, none⟩)]) rfl trivial (enters_of Try.func79 (by kernel_rfl) rfl) ?caseH ?caseQ
  case caseH =>
    intro fn rec hfn hrec
    obtain ⟨l, el⟩ : ∃ l, l = W0.heap.size + 1 := ⟨_, rfl⟩
    rw [← el, ← ed]
    rw [← ed] at hrec
    have hB1 : Below w.heap.size w ((W0.alloc (.deferred (some []))).alloc (.loop (rec .ready none))) := (hb0.alloc (by omega) _).alloc (by simp; omega) _
    have hd1 : ((W0.alloc (.deferred (some []))).alloc (.loop (rec .ready none))).heap[d]? = some (.deferred (some [])) := by rw [ed]; exact blk_alloc (blk_new W0 _) _
    have hl1 : ((W0.alloc (.deferred (some []))).alloc (.loop (rec .ready none))).heap[l]? = some (.loop (rec .ready none)) := by have z := blk_new (W0.alloc (.deferred (some []))) (.loop (rec .ready none)); rw [World.size_alloc, ← el] at z; exact z
    have z4 := blk_alloc (blk_alloc x4 (.deferred (some []))) (.loop (rec .ready none))
    have z5 := blk_alloc (blk_alloc x5 (.deferred (some []))) (.loop (rec .ready none))
    have zb := blk_alloc (blk_alloc xb (.deferred (some []))) (.loop (rec .ready none))
    have EL := Aside0.mk (show l = w.heap.size + 4 by omega)
    generalize ((W0.alloc (.deferred (some []))).alloc (.loop (rec .ready none))) = W1 at *
    have ST := Aside0.mk (show frame_All.St w g4 g5 l d (.loop (rec .ready none)) [] 0 W1 from ⟨⟨_, z4, Kd.R_nil _ _ _ _ _⟩, z5, hl1, hd1, hB1⟩)
    have ZB := Aside0.mk zb
    clear z4 z5 zb hd1 hl1 hB1 x4 x5 xb hb0 el ed e4 e5 eb hsz
    have hround : ∀ (acc : List S34) (at_ kd x : Int) (v gbv : Value) (bs : List Int) (W : World), frame_All.St w g4 g5 l d (.loop (rec .ready none)) acc at_ W → acc.length < 1000000000 → W.heap[gb]? = some (.cells #[gbv] 22 (0, 0)) → Kd.R (Kd.int .u8) 5 W w.heap.size (fun _ => True) v bs →
        YieldAt Fence.wide 6 Try.prog l #[.int .i64 x, .agg #[.int .i64 kd, v]] W fun e W' => e = .returned (.bool true) ∧ frame_All.St w g4 g5 l d (.loop (rec .ready none)) (acc ++ [⟨kd, bs⟩]) (wrap64 (at_ + x)) W' ∧ W'.heap[gb]? = some (.cells #[gbv] 22 (0, 0)) := by
      intro acc at_ kd x v gbv bs W hst hacc hgb hv
      obtain ⟨⟨v4, hv4, hr4⟩, ha, hl, hd, hB⟩ := hst
      refine yieldAt_rec (r := rec .ready none) trivial hl (by rw [hrec]; rfl) ?_
      have HL := Aside0.mk hl
      have HD := Aside0.mk hd
      have HA := Aside0.mk ha
      have HV4 := Aside0.mk hv4
      have HR4 := Aside0.mk hr4
      have HGB := Aside0.mk hgb
      have HV := Aside0.mk hv
      have HB := Aside0.mk hB
      have HREC := Aside0.mk hrec
      have HACC := Aside0.mk hacc
      clear hl ha hv4 hgb hv hd hr4 hB hacc
      obtain ⟨Av, cv, ev⟩ := Kd.R_slice HV.out
      subst ev
      rw [hrec]
      dsimp only
      simp only [List.zip_toArray, List.zip_cons_cons, List.zip_nil_left, List.zip_nil_right, List.foldl_toArray', List.foldl_toArray, List.foldl_cons, List.foldl_nil, List.setIfInBounds_toArray, List.set_cons_succ, List.set_cons_zero]
      clear hrec
      gi_wp2
      refine ⟨_, blk_alloc HL.out _, by rw [HREC.out], ?_⟩
      have hsz := HB.out.size
      have hl := HL.out
      have hlw : l < W.heap.size := blk_lt HL.out
      have hbusy : ({ rec .ready none with state := .busy } : Loop) = rec .busy none := by rw [HREC.out]
      rw [hbusy]
      obtain ⟨V, hV⟩ : ∃ V, ((W.alloc (.cells #[.int .i64 kd, .slice Av bs.length cv] 34)).putObj l (.loop (rec .busy none))) = V := ⟨_, rfl⟩
      have hVk : ∀ (q : Nat) (ob : Obj), W.heap[q]? = some ob → q ≠ l → V.heap[q]? = some ob := by
        intro q ob hq hne
        rw [← hV, World.putObj_heap_other hne]
        exact blk_alloc hq _
      have hVn : V.heap[W.heap.size]? = some (.cells #[.int .i64 kd, .slice Av bs.length cv] 34 (0, 0)) := by
        rw [← hV, World.putObj_heap_other (by omega)]
        exact blk_new _ _
      have hVl : V.heap[l]? = some (.loop (rec .busy none)) := by
        rw [← hV]
        exact World.putObj_heap_same (by simp; omega)
      have hVs : V.heap.size = W.heap.size + 1 := by rw [← hV]; simp
      have hVb : Below w.heap.size w V := by
        rw [← hV]
        have h1 := HB.out.alloc hsz (.cells #[.int .i64 kd, .slice Av bs.length cv] 34)
        refine ⟨h1.os, h1.tape, h1.output, by simpa using h1.size, ?_⟩
        intro q hq
        rw [World.putObj_heap_other (by have := EL.out; omega)]
        exact h1.block q hq
      rw [hV]
      have yb := Aside0.mk (hVk _ _ HGB.out (by have := EL.out; have := EB.out; intro he; rw [he, HL.out] at HGB; exact absurd HGB.out (by simp)))
      have y4 := Aside0.mk (hVk _ _ HV4.out (by have := EL.out; have := E4.out; omega))
      have y5 := Aside0.mk (hVk _ _ HA.out (by have := EL.out; have := E5.out; omega))
      have yd := Aside0.mk (hVk _ _ HD.out (by have := EL.out; have := ED.out; omega))
      have yr : Aside0 (k34.R 34 V w.heap.size (fun _ => True) v4 acc) := ⟨R_keep HR4.out (fun q cs t _ hq => hVk _ _ hq (by intro he; rw [he, HL.out] at hq; cases hq))⟩
      have yv : Aside0 ((Kd.int .u8).R 5 V w.heap.size (fun _ => True) (.slice Av bs.length cv) bs) := ⟨R_keep HV.out (fun q cs t _ hq => hVk _ _ hq (by intro he; rw [he, HL.out] at hq; cases hq))⟩
      have yn := Aside0.mk hVn
      have yl := Aside0.mk hVl
      have ybl := Aside0.mk hVb
      have ys := Aside0.mk hVs
      clear hVk hVn hVl hVb hVs hV hbusy hl hlw hsz HL HD HA HV4 HR4 HGB HV HB ST ZB
      have n45 : g4 ≠ g5 := by have := E4.out; have := E5.out; omega
      have c40 : V.cell? ⟨g4, 0, none⟩ = some v4 := (blk_cell y4.out 0).trans rfl
      have c40f := blk_frozen y4.out 0
      have c70 : V.cell? ⟨W.heap.size, 0, none⟩ = some (.int .i64 kd) := (blk_cell yn.out 0).trans rfl
      have c71 : V.cell? ⟨W.heap.size, 1, none⟩ = some (.slice Av bs.length cv) := (blk_cell yn.out 1).trans rfl
      gi_wp2_with (gi_at_builtin; go_loud (refine R_appendIn k34 (w0 := w) w.heap.size rfl _ _ 30 34 _ _ rfl Try.underlying30 info34 rfl (by decide) (by decide) v4 acc ⟨kd, bs⟩ [.int .i64 kd, .slice Av bs.length cv] rfl rfl ?p1 ?p2 yr.out ybl.out ?p3 ?p4 ?_; (case p1 => exact k34_mkM _ _ _ ⟨kd, bs⟩ yv.out); (case p2 => decide); (case p3 => exact ybl.out.size); (case p4 => have := HACC.out; omega); intro v5 w1 hr5 hb5 hk5; obtain ⟨A5, c5, e5_⟩ := Kd.R_slice hr5; subst e5_; have k4 := hk5 _ _ y4.out (by intro cs hc; cases hc); have k5 := hk5 _ _ y5.out (by intro cs hc; cases hc); have kb := Aside0.mk (hk5 _ _ yb.out (by intro cs hc; cases hc)); have kd5 := Aside0.mk (hk5 _ _ yd.out (by intro cs hc; cases hc)); have kl := Aside0.mk (hk5 _ _ yl.out (by intro cs hc; cases hc)); clear hk5; have HR5 := Aside0.mk hr5; have HB5 := Aside0.mk hb5; clear hr5 hb5; have K4 := Aside0.mk k4; have K5 := Aside0.mk k5; have d40 : w1.cell? ⟨g4, 0, none⟩ = some v4 := (blk_cell k4 0).trans rfl; have d40f := blk_frozen k4 0; have d5 : ∀ u, (w1.setCell ⟨g4, 0, none⟩ u).cell? ⟨g5, 0, none⟩ = some (.int .i64 at_) := (fun u => (blk_cell (blk_far k5 (p := ⟨g4, 0, none⟩) (Ne.symm n45) u) 0).trans rfl); have d5f : ∀ u, (w1.setCell ⟨g4, 0, none⟩ u).frozen? ⟨g5, 0, none⟩ = false := (fun u => blk_frozen (blk_far k5 (p := ⟨g4, 0, none⟩) (Ne.symm n45) u) 0); clear k4 k5))
      obtain rfl := HREC.out
      have hlb := EL.out
      have h4b := E4.out
      have h5b := E5.out
      have hbb := EB.out
      have hdb := ED.out
      have k4 := K4.out
      have k5 := K5.out
      have keep : ∀ q, q ≠ g4 → q ≠ g5 → ((w1.setCell { block := g4, off := 0 } (Value.slice A5 (acc.length + 1) c5)).setCell { block := g5, off := 0 } (Value.int IntKind.i64 (wrap64 (at_ + x)))).heap[q]? = w1.heap[q]? := fun q h4 h5 => set2_keep h4 h5
      have u4 : ((w1.setCell { block := g4, off := 0 } (Value.slice A5 (acc.length + 1) c5)).setCell { block := g5, off := 0 } (Value.int IntKind.i64 (wrap64 (at_ + x)))).heap[g4]? = some (.cells #[Value.slice A5 (acc.length + 1) c5] 30 (0, 0)) := blk_far (blk_put k4 0 _ rfl) (p := ⟨g5, 0, none⟩) n45 _
      have u5 : ((w1.setCell { block := g4, off := 0 } (Value.slice A5 (acc.length + 1) c5)).setCell { block := g5, off := 0 } (Value.int IntKind.i64 (wrap64 (at_ + x)))).heap[g5]? = some (.cells #[Value.int .i64 (wrap64 (at_ + x))] 3 (0, 0)) := blk_put (blk_far k5 (p := ⟨g4, 0, none⟩) (Ne.symm n45) _) 0 _ rfl
      have ub : Below w.heap.size w ((w1.setCell { block := g4, off := 0 } (Value.slice A5 (acc.length + 1) c5)).setCell { block := g5, off := 0 } (Value.int IntKind.i64 (wrap64 (at_ + x)))) := (HB5.out.setCell (p := ⟨g4, 0, none⟩) (show w.heap.size ≤ g4 by omega) _).setCell (p := ⟨g5, 0, none⟩) (show w.heap.size ≤ g5 by omega) _
      generalize ((w1.setCell { block := g4, off := 0 } (Value.slice A5 (acc.length + 1) c5)).setCell { block := g5, off := 0 } (Value.int IntKind.i64 (wrap64 (at_ + x)))) = U at *
      have ul := (keep l (by omega) (by omega)).trans kl.out
      have hlt := blk_lt ul
      refine ⟨_, _, run_endRound none ul, ?_⟩
      refine ⟨rfl, ?st, ?gb⟩
      case st => 
        refine ⟨⟨Value.slice A5 (acc.length + 1) c5, ?_, ?_⟩, ?_, ?_, ?_, ?_⟩
        · exact (World.putObj_heap_other (by omega)).trans u4
        · have z := HR5.out
          rw [List.length_append, List.length_singleton] at z
          refine R_keep z (fun q cs t ht hq => ?_)
          have n4 : q ≠ g4 := by
            intro he; rw [he, k4] at hq; injection hq with hq; injection hq with _ hq; exact absurd hq (by revert t; decide)
          have n5 : q ≠ g5 := by
            intro he; rw [he, k5] at hq; injection hq with hq; injection hq with _ hq; exact absurd hq (by revert t; decide)
          have nl : q ≠ l := by
            intro he; rw [he, kl.out] at hq; cases hq
          exact (World.putObj_heap_other nl).trans ((keep q n4 n5).trans hq)
        · exact (World.putObj_heap_other (by omega)).trans u5
        · exact World.putObj_heap_same hlt
        · exact (World.putObj_heap_other (by omega)).trans ((keep _ (by omega) (by omega)).trans kd5.out)
        · exact below_putObj ub (by omega) _
      case gb => exact (World.putObj_heap_other (by omega)).trans ((keep _ (by omega) (by omega)).trans kb.out)
    obtain ⟨i5, hi5, hz5⟩ := Option.map_eq_some_iff.1 info5
    have hz5b : i5.size = 1 := congrArg (fun z => z.2.1) hz5
    clear hz5
    have HI5 := Aside0.mk hi5
    have HZ5 := Aside0.mk hz5b
    have HRND := Aside0.mk hround
    clear hi5 hz5b hround hrec
    refine callsIn_of_wp Try.func79 rfl trivial ?_ rfl
    simp only [Try.ntmps79, List.size_toArray, List.length_cons, List.length_nil, Nat.reduceAdd, Nat.reduceSub, Array.replicate_succ, Array.replicate_zero, List.push_toArray, List.append_toArray, List.nil_append, List.cons_append]
    gi_wp2
    gi_loopg [] k (fun kk W => ∃ (b : List Int) (Ab : Option Addr) (cb : Nat) (acc : List S34) (at_ : Int), frame_All.l0 kk b acc at_ = some (r1, r2) ∧ (Kd.int .u8).C w Ab b.length b ∧ b.length ≤ cb ∧ W.heap[gb]? = some (.cells #[.slice Ab b.length cb] 22 (0, 0)) ∧ frame_All.St w g4 g5 l d (.loop (rec .ready none)) acc at_ W)
    case atStart => exact ⟨l0, A0, c0, [], 0, H.out, CM.out, HC.out, ZB.out, ST.out⟩
    case round =>
      obtain ⟨b, Ab, cb, acc, at_, hl, hc, hcb, hgb, hst⟩ := hrel
      cases gk with
      | zero => cases hl
      | succ kk =>
        unfold frame_All.l0 at hl
        obtain ⟨⟨q1, q2, q3, q4⟩, hg, hl⟩ := Option.bind_eq_some_iff.1 hl
        dsimp only at hl
        have cb0 : wr.cell? ⟨gb, 0, none⟩ = some (.slice Ab b.length cb) := (blk_cell hgb 0).trans rfl
        have HL := Aside0.mk hl
        have HGB := Aside0.mk hgb
        have HST := Aside0.mk hst
        have HCB := Aside0.mk hcb
        have HCC := Aside0.mk hc
        have HGET := Aside0.mk hg
        clear hl hgb hst hcb hc hg
        gi_wp2_with (refine ⟨trivial, ?_⟩; gi_at_call 14; refine (callsIn_wide.2 (frame_Get.calls kk Ab cb b q1 q2 q3 q4 _ (Kd.C_below HCC.out HST.out.b) HCB.out HGET.out)).mono ?_; rintro e W2 ⟨v2, rfl, hv2, hb2⟩; obtain ⟨A2, c2, e2_⟩ := Kd.R_slice hv2; subst e2_; have HV2 := Aside0.mk hv2; have HB2 := Aside0.mk hb2; clear hv2 hb2)
        · have HQ : q4 = 0 := by assumption
          have hl := HL.out
          rw [if_pos HQ] at hl
          by_cases hc : 0 ≤ q3 ∧ q3 ≤ (b.length : Int) ∧ acc.length < 1000000000
          · rw [if_pos hc] at hl
            have hst2 := HST.out.below HB2.out
            have hv2 : (Kd.int .u8).R 5 W2 w.heap.size (fun _ => True) (.slice A2 q2.length c2) q2 := Kd.R_lower HV2.out (HST.out.b.size)
            obtain ⟨fn2, tmps2, assign2, body2, hy, hR⟩ := HRND.out acc at_ q1 q3 (.slice A2 q2.length c2) (.slice Ab b.length cb) q2 W2 hst2 hc.2.2 (blk_below HGB.out HB2.out) hv2
            have hCC2 := HCC.out
            have HR_ := Aside0.mk hR
            have HCC2 := Aside0.mk hCC2
            have HL2 := Aside0.mk hl
            clear hR hCC2 hl hst2 hv2 HL HST HGB HV2 HCC HGET HB2 HRND
            rw [hy]
            clear hy
            refine ⟨fun _ => by omega, HR_.out.mono ?_⟩
            rintro e W3 ⟨rfl, hst3, hgb3⟩
            have cb3 : W3.cell? ⟨gb, 0, none⟩ = some (.slice Ab b.length cb) := (blk_cell hgb3 0).trans rfl
            have cb3f := blk_frozen hgb3 0
            have hcut := cut_from (P := Try.prog) 22 5 .i64 Try.underlying22 HI5.out 1 HZ5.out Ab b.length cb q3 hc.1 hc.2.1
            obtain ⟨Ax, hAx⟩ : ∃ Ax, (if cb = q3.toNat then Ab else Ab.map (·.add (q3.toNat * 1))) = Ax := ⟨_, rfl⟩
            rw [hAx] at hcut
            have HAX := Aside0.mk hAx
            clear hAx
            have HST3 := Aside0.mk hst3
            have HGB3 := Aside0.mk hgb3
            have HCX := Aside0.mk hc
            clear hst3 hgb3 HR_ hc
            gi_wp2
            gi_roundg kk
            case measure => omega
            case rel =>
              have h4b := E4.out
              have h5b := E5.out
              have hbb := EB.out
              have hdb := ED.out
              have hlb := EL.out
              have hcx := HCX.out
              have hln : (b.drop q3.toNat).length = b.length - q3.toNat := List.length_drop
              refine ⟨b.drop q3.toNat, Ax, cb - q3.toNat, acc ++ [⟨q1, q2⟩], wrap64 (at_ + q3), HL2.out, ?_, ?_, ?_, HST3.out.put HGB3.out (by omega) (by omega) (by omega) (by omega) (by omega) _⟩
              · have z := Kd.C_drop (m := q3.toNat) HCC2.out (by omega) HCB.out
                rw [← HAX.out]
                exact z
              · have := HCB.out
                omega
              · rw [hln]
                exact blk_put HGB3.out 0 _ rfl
          · rw [if_neg hc] at hl
            cases hl
        · have HQ : ¬ q4 = 0 := by assumption
          have hl := HL.out
          rw [if_neg HQ] at hl
          refine ⟨fun _ h => (by cases h), ?_⟩
          gi_wp2
          refine bodyPost_ret (results_none rfl _ _ _) rfl ?_
          injection hl with hl
          injection hl with hl1 hl2
          subst hl1 hl2
          have hst2 := HST.out.below HB2.out
          exact ⟨⟨_, rfl⟩, ⟨_, hst2⟩, hst2.l⟩
  case caseQ =>
    rintro W2 o o' ⟨o2, hst⟩ ho
    have h4b := E4.out
    have h5b := E5.out
    have hdb := ED.out
    obtain ⟨⟨v4, hv4, hr4⟩, ha, hl, hd, hB⟩ := hst
    obtain ⟨A4, c4, ev4⟩ := Kd.R_slice hr4
    subst ev4
    have y4 : (W2.putObj (W0.heap.size + 1) o').heap[g4]? = some (.cells #[.slice A4 r1.length c4] 30 (0, 0)) := (World.putObj_heap_other (by omega)).trans hv4
    have y5 : (W2.putObj (W0.heap.size + 1) o').heap[g5]? = some (.cells #[.int .i64 r2] 3 (0, 0)) := (World.putObj_heap_other (by omega)).trans ha
    have yd : (W2.putObj (W0.heap.size + 1) o').heap[W0.heap.size]? = some (.deferred (some [])) := (World.putObj_heap_other (by omega)).trans hd
    have yb : Below w.heap.size w (W2.putObj (W0.heap.size + 1) o') := below_putObj hB (by omega) _
    have yr : k34.R 34 (W2.putObj (W0.heap.size + 1) o') w.heap.size (fun _ => True) (.slice A4 r1.length c4) r1 := R_keep hr4 (fun q cs t ht hq => by
      have nl : q ≠ W0.heap.size + 1 := by intro he; rw [he, hl] at hq; cases hq
      exact (World.putObj_heap_other nl).trans hq)
    generalize (W2.putObj (W0.heap.size + 1) o') = X at *
    have c40 : X.cell? ⟨g4, 0, none⟩ = some (.slice A4 r1.length c4) := (blk_cell y4 0).trans rfl
    have c50 : X.cell? ⟨g5, 0, none⟩ = some (.int .i64 r2) := (blk_cell y5 0).trans rfl
    have YD := Aside0.mk yd
    have YD0 := Aside0.mk ed
    have YB := Aside0.mk yb
    have YR := Aside0.mk yr
    clear yd yb yr y4 y5 hv4 hr4 ha hl hd hB ho h4b h5b hdb x4 x5 xb hb0 e4 e5 eb ed hsz
    gi_wp2
    gi_region
    gi_wp2
    refine ⟨by simp, .inl ⟨_, _, rfl, run_takeDeferred (blk_drew YD.out), ?_⟩⟩
    refine ⟨_, results_tmp2 rfl _ _ _, ⟨.slice A4 r1.length c4, rfl, ?_, ?_⟩⟩
    · exact R_keep YR.out (fun q cs t ht hq => by
        have nl : q ≠ W0.heap.size := by intro he; rw [he, YD.out] at hq; cases hq
        exact (World.putObj_heap_other nl).trans (blk_drew hq))
    · exact below_putObj (below_drew1 YB.out) (by have := ED.out; have := YD0.out; omega) _
end


/-! ### frame_four: function 59 -/
def frame_four.f (a0 : Int) : Option (List Int) := some (([(a0) % 256, (a0 / 256) % 256, (a0 / 65536) % 256, (a0 / 16777216) % 256] : List Int))
set_option maxHeartbeats 8000000 in
set_option maxRecDepth 100000 in
theorem frame_four.calls (a0 : Int) (r : List Int) (w : World) (h : frame_four.f a0 = some r) :
    Calls Try.prog 59 #[.int .i64 a0] w fun e w' => ∃ v0_ : Value, e = .returned (v0_) ∧ Kd.R (Kd.int .u8) 5 w' w.heap.size (fun _ => True) v0_ r ∧ Below w.heap.size w w' := by
  have HB := Aside0.mk (Below.refl w.heap.size w)
  have H : (some (([(a0) % 256, (a0 / 256) % 256, (a0 / 65536) % 256, (a0 / 16777216) % 256] : List Int))) = some r := h
  clear h
  obtain ⟨y120, hy120⟩ : ∃ y_ : List Int, y_ = (([(a0) % 256, (a0 / 256) % 256, (a0 / 65536) % 256, (a0 / 16777216) % 256] : List Int)) := ⟨_, rfl⟩
  replace H : (some y120) = some r := by first | (rw [hy120]; with_reducible exact H) | (have H2_ := (Option.bind_some _ _).symm.trans H; rw [hy120]; with_reducible exact H2_) | (have H2_ := (Option.bind_some _ _).symm.trans H; with_reducible exact H2_) | with_reducible exact H | (rw [hy120]; exact H) | exact H
  have Ny120 := Aside0.mk hy120
  clear hy120
  obtain rfl := Option.some.inj H
  go_enter Try.func59, Try.ntmps59
  go_wp2_with (first | ((with_reducible refine gate_dst (N := 14) rfl ?_); refine Kd.R_lit (Kd.int .u8) _ 5 ?hg (N := 14) ?hd (xs := ([(a0) % 256, (a0 / 256) % 256, (a0 / 65536) % 256, (a0 / 16777216) % 256] : List Int)) (inner := [.int .u8 ((a0) % 256), .int .u8 ((a0 / 256) % 256), .int .u8 ((a0 / 65536) % 256), .int .u8 ((a0 / 16777216) % 256)]) (ok := fun _ => True) (okp := fun _ => True) ?hr ?hp (fun _ hk => hk) trivial (Below.refl _ _) (Nat.le_refl _) (by simp) ?_; (case hd => rfl); (case hg => rfl); (case hr => first | (go_simp; done) | (go_simp; rfl)); (case hp => exact (Reps.one (show Kd.M (Kd.int .u8) _ _ _ ((a0) % 256) [.int .u8 ((a0) % 256)] from rfl) (Reps.one (show Kd.M (Kd.int .u8) _ _ _ ((a0 / 256) % 256) [.int .u8 ((a0 / 256) % 256)] from rfl) (Reps.one (show Kd.M (Kd.int .u8) _ _ _ ((a0 / 65536) % 256) [.int .u8 ((a0 / 65536) % 256)] from rfl) (Reps.one (show Kd.M (Kd.int .u8) _ _ _ ((a0 / 16777216) % 256) [.int .u8 ((a0 / 16777216) % 256)] from rfl) (Reps.none _ _)))))); intro v121 w2 ho3 hb hg_ hnew_; clear hg_ hnew_; (first | rw [← Ny120.out] at ho3 | (simp only [Int.reduceToNat] at ho3; rw [← Ny120.out] at ho3)); have n0_ := Aside0.mk (Kd.R_lower ho3 (below_size (by repeat (first | (with_reducible first | exact HB.out | apply below_alloc | apply pw_below_drewN | apply below_drew1) | exact HB.out)))); have n1_ := Aside0.mk (below_step (by repeat (first | (with_reducible first | exact HB.out | apply below_alloc | apply pw_below_drewN | apply below_drew1) | exact HB.out)) hb); clear HB; have HO122 := n0_; have HB := n1_; clear n0_ n1_; clear hb ho3))
  go_ret
  exact ⟨_, by first | rfl | (simp [errW_none, errW_some] <;> rfl) | (simp [*, errW_none, errW_some] <;> rfl), by (with_reducible repeat (first | apply Kd.R_alloc | apply Kd.R_drewN | apply Kd.R_drew)); exact HO122.out, by repeat (first | (with_reducible first | exact HB.out | apply below_alloc | apply pw_below_drewN | apply below_drew1) | exact HB.out)⟩

/-! ### frame_Put: function 27 -/
def frame_Put.j0 : Nat → Int → List Int → Bool → Option (List Int × Int)
  | 0, _, _, _ => none
  | k + 1, x0, x1, x8 => if x8 = true then (some (([] : List Int), 1)) else (if (x1.length : Int) > 1048576 then (some (([] : List Int), 2)) else ((some (([(x0) % 256] : List Int) : List Int)).bind fun y123 => ((frame_four.f (x1.length : Int)).bind fun t126 => (if y123.length + t126.length < 140737488355328 then ((some (y123 ++ t126 : List Int)).bind fun y129 => ((frame_more.f k 4294967295 y129).bind fun t132 => ((frame_more.f k t132 x1).bind fun t133 => ((frame_four.f (wrap64 (Go.bits .xor .u32 4294967295 t133))).bind fun t134 => (if y129.length + t134.length < 140737488355328 then ((some (y129 ++ t134 : List Int)).bind fun y137 => (if y137.length + x1.length < 140737488355328 then (some ((y137 ++ x1), 0)) else (none))) else (none)))))) else (none)))))
def frame_Put.f (k : Nat) (a0 : Int) (l1 : List Int) : Option (List Int × Int) := if a0 < 0 then (frame_Put.j0 k a0 l1 true) else (frame_Put.j0 k a0 l1 (decide (a0 > 255)))
theorem frame_Put.mono_l : ∀ k, (∀ y0 y1 y2, LeO (frame_Put.j0 k y0 y1 y2) (frame_Put.j0 (k + 1) y0 y1 y2))
  | 0 => fun _ _ _ r h => by simp [frame_Put.j0] at h
  | k + 1 => by
    have ih0 := frame_Put.mono_l k
    · intro y0 y1 y2
      unfold frame_Put.j0
      repeat' first
      | (with_reducible exact ih0 _ _ _)
      | (with_reducible exact frame_more.mono _ _ _)
      | (with_reducible exact LeO.refl _)
      | (with_reducible exact LeO.none _)
      | (with_reducible refine LeO.ite ?_ ?_)
      | (with_reducible refine LeO.bind ?_ (fun _ => ?_))
      | exact ih0 _ _ _
      | exact frame_more.mono _ _ _
      | exact LeO.none _
      | refine LeO.ite ?_ ?_
      | refine LeO.bind ?_ (fun _ => ?_)
theorem frame_Put.mono : ∀ a0 a1 k, LeO (frame_Put.f k a0 a1) (frame_Put.f (k + 1) a0 a1) := by
  intro a0 a1 k
  have ih0 := frame_Put.mono_l k
  unfold frame_Put.f
  repeat' first
      | (with_reducible exact ih0 _ _ _)
      | (with_reducible exact frame_more.mono _ _ _)
      | (with_reducible exact LeO.refl _)
      | (with_reducible exact LeO.none _)
      | (with_reducible refine LeO.ite ?_ ?_)
      | (with_reducible refine LeO.bind ?_ (fun _ => ?_))
      | exact ih0 _ _ _
      | exact frame_more.mono _ _ _
      | exact LeO.none _
      | refine LeO.ite ?_ ?_
      | refine LeO.bind ?_ (fun _ => ?_)
set_option maxHeartbeats 8000000 in
set_option maxRecDepth 100000 in
theorem frame_Put.calls (k : Nat) (a0 : Int) (A1 : Option Addr) (c1 : Nat) (l1 : List Int) (r1 : List Int) (r2 : Int) (w : World) (hr1 : Kd.C (Kd.int .u8) w A1 l1.length l1) (hc1 : l1.length ≤ c1) (h : frame_Put.f k a0 l1 = some (r1, r2)) :
    Calls Try.prog 27 #[.int .i64 a0, .slice A1 l1.length c1] w fun e w' => ∃ v0_ : Value, e = .returned (.tuple #[v0_, .int .i64 r2]) ∧ Kd.R (Kd.int .u8) 5 w' w.heap.size (fun _ => True) v0_ r1 ∧ Below w.heap.size w w' := by
  have HR1 := Aside0.mk hr1
  have HC1 := Aside0.mk hc1
  clear hr1 hc1
  have HB := Aside0.mk (Below.refl w.heap.size w)
  have H : (if a0 < 0 then (frame_Put.j0 k a0 l1 true) else (frame_Put.j0 k a0 l1 (decide (a0 > 255)))) = some (r1, r2) := h
  clear h
  have HC3 := Aside0.mk H
  clear H
  go_enter Try.func27, Try.ntmps27
  go_upto_region 1 with (fail)
  go_cut [8] (fun v8 wc => ∃ (kq : Nat) (x8_2 : Bool), v8 = .bool x8_2 ∧ Aside0 (frame_Put.j0 kq a0 l1 x8_2 = some (r1, r2)) ∧ Aside0 (kq ≤ k) ∧ Aside0 (Below w.heap.size w wc))
  case first =>
    have H := HC3.out
    clear HC3
    by_cases c4 : a0 < 0
    · rw [if_pos c4] at H
      have c4b0 : decide (a0 < 0) = true := decide_eq_true c4
      clear c4
      (first | rw [c4b0] | (simp only [i64_w, i32_w]; rw [c4b0]) | skip)
      have H' := Aside0.mk H
      clear H
      go_wp2
      go_meet
      case rel => exact ⟨_, (true), (by first | rfl | (simp; done) | (simp [*]; done)), H', ⟨by first | omega | exact Nat.le_refl _⟩, ⟨by repeat (first | (with_reducible first | exact HB.out | apply below_alloc | apply pw_below_drewN | apply below_drew1) | exact HB.out)⟩⟩
    · rw [if_neg c4] at H
      have c4b0 : decide (a0 < 0) = false := decide_eq_false c4
      clear c4
      (first | rw [c4b0] | (simp only [i64_w, i32_w]; rw [c4b0]) | skip)
      have H' := Aside0.mk H
      clear H
      go_wp2
      go_meet
      case rel => exact ⟨_, (decide (a0 > 255)), (by first | rfl | (simp; done) | (simp [*]; done)), H', ⟨by first | omega | exact Nat.le_refl _⟩, ⟨by repeat (first | (with_reducible first | exact HB.out | apply below_alloc | apply pw_below_drewN | apply below_drew1) | exact HB.out)⟩⟩
  case rest =>
    clear HC3
    try clear c1
    try clear c2
    try clear p2
    try clear c4
    try clear c4b0
    obtain ⟨kq, x8_2, rfl, HA, HJ2, HB⟩ := hcut
    cases kq with
    | zero => exact absurd HA.out (by simp [frame_Put.j0])
    | succ kj2 =>
      have H := HA.out
      clear HA
      simp only [frame_Put.j0] at H
      by_cases c5 : x8_2 = true
      · subst c5
        have H1 : (some (([] : List Int), 1)) = some (r1, r2) := by rw [if_pos rfl] at H; exact H
        clear H
        have H := H1
        clear H1
        simp only [Option.some.injEq, Prod.mk.injEq] at H
        obtain ⟨rfl, rfl⟩ := H
        go_wp2
        go_ret2
        exact ⟨_, by first | rfl | (simp [errW_none, errW_some] <;> rfl) | (simp [*, errW_none, errW_some] <;> rfl), by first | exact Kd.R_nil _ _ _ _ _ | exact Kd.N_nil _ _ _ _ _ | exact Kd.V_nil _ _ _ _ _ | exact Kd.Q_nil _ _ _ _ _ | exact Kd.S_nil _ _ _ _ _, by repeat (first | (with_reducible first | exact HB.out | apply below_alloc | apply pw_below_drewN | apply below_drew1) | exact HB.out)⟩
      · replace c5 := Bool.eq_false_iff.mpr c5
        subst c5
        have H1 : (if (l1.length : Int) > 1048576 then (some (([] : List Int), 2)) else ((some (([(a0) % 256] : List Int) : List Int)).bind fun y123 => ((frame_four.f (l1.length : Int)).bind fun t126 => (if y123.length + t126.length < 140737488355328 then ((some (y123 ++ t126 : List Int)).bind fun y129 => ((frame_more.f kj2 4294967295 y129).bind fun t132 => ((frame_more.f kj2 t132 l1).bind fun t133 => ((frame_four.f (wrap64 (Go.bits .xor .u32 4294967295 t133))).bind fun t134 => (if y129.length + t134.length < 140737488355328 then ((some (y129 ++ t134 : List Int)).bind fun y137 => (if y137.length + l1.length < 140737488355328 then (some ((y137 ++ l1), 0)) else (none))) else (none)))))) else (none))))) = some (r1, r2) := by rw [if_neg (show ¬ (false = true) by decide)] at H; exact H
        clear H
        have H := H1
        clear H1
        by_cases c6 : (l1.length : Int) > 1048576
        · rw [if_pos c6] at H
          have c6b0 : decide (1048576 < (l1.length : Int)) = true := decide_eq_true c6
          have c6b1 : decide (1048576 < l1.length) = true := decide_eq_true (by omega)
          clear c6
          simp only [Option.some.injEq, Prod.mk.injEq] at H
          obtain ⟨rfl, rfl⟩ := H
          go_wp2
          go_ret2
          exact ⟨_, by first | rfl | (simp [errW_none, errW_some] <;> rfl) | (simp [*, errW_none, errW_some] <;> rfl), by first | exact Kd.R_nil _ _ _ _ _ | exact Kd.N_nil _ _ _ _ _ | exact Kd.V_nil _ _ _ _ _ | exact Kd.Q_nil _ _ _ _ _ | exact Kd.S_nil _ _ _ _ _, by repeat (first | (with_reducible first | exact HB.out | apply below_alloc | apply pw_below_drewN | apply below_drew1) | exact HB.out)⟩
        · rw [if_neg c6] at H
          have c6b0 : decide (1048576 < (l1.length : Int)) = false := decide_eq_false c6
          have c6b1 : decide (1048576 < l1.length) = false := decide_eq_false (by omega)
          clear c6
          obtain ⟨y123, hy123⟩ : ∃ y_ : List Int, y_ = (([(a0) % 256] : List Int)) := ⟨_, rfl⟩
          replace H : ((frame_four.f (l1.length : Int)).bind fun t126 => (if y123.length + t126.length < 140737488355328 then ((some (y123 ++ t126 : List Int)).bind fun y129 => ((frame_more.f kj2 4294967295 y129).bind fun t132 => ((frame_more.f kj2 t132 l1).bind fun t133 => ((frame_four.f (wrap64 (Go.bits .xor .u32 4294967295 t133))).bind fun t134 => (if y129.length + t134.length < 140737488355328 then ((some (y129 ++ t134 : List Int)).bind fun y137 => (if y137.length + l1.length < 140737488355328 then (some ((y137 ++ l1), 0)) else (none))) else (none)))))) else (none))) = some (r1, r2) := by first | (rw [hy123]; with_reducible exact H) | (have H2_ := (Option.bind_some _ _).symm.trans H; rw [hy123]; with_reducible exact H2_) | (have H2_ := (Option.bind_some _ _).symm.trans H; with_reducible exact H2_) | with_reducible exact H | (rw [hy123]; exact H) | exact H
          have Ny123 := Aside0.mk hy123
          clear hy123
          replace H := Option.bind_eq_some_iff.mp H
          obtain ⟨t126, A70, H⟩ := H
          replace H : (if y123.length + t126.length < 140737488355328 then ((some (y123 ++ t126 : List Int)).bind fun y129 => ((frame_more.f kj2 4294967295 y129).bind fun t132 => ((frame_more.f kj2 t132 l1).bind fun t133 => ((frame_four.f (wrap64 (Go.bits .xor .u32 4294967295 t133))).bind fun t134 => (if y129.length + t134.length < 140737488355328 then ((some (y129 ++ t134 : List Int)).bind fun y137 => (if y137.length + l1.length < 140737488355328 then (some ((y137 ++ l1), 0)) else (none))) else (none)))))) else (none)) = some (r1, r2) := H
          have A7 := Aside0.mk A70
          clear A70
          by_cases c8 : y123.length + t126.length < 140737488355328
          · rw [if_pos c8] at H
            have LMc8 := Aside0.mk c8
            clear c8
            obtain ⟨y129, hy129⟩ : ∃ y_ : List Int, y_ = (y123 ++ t126) := ⟨_, rfl⟩
            replace H : ((frame_more.f kj2 4294967295 y129).bind fun t132 => ((frame_more.f kj2 t132 l1).bind fun t133 => ((frame_four.f (wrap64 (Go.bits .xor .u32 4294967295 t133))).bind fun t134 => (if y129.length + t134.length < 140737488355328 then ((some (y129 ++ t134 : List Int)).bind fun y137 => (if y137.length + l1.length < 140737488355328 then (some ((y137 ++ l1), 0)) else (none))) else (none))))) = some (r1, r2) := by first | (rw [hy129]; with_reducible exact H) | (have H2_ := (Option.bind_some _ _).symm.trans H; rw [hy129]; with_reducible exact H2_) | (have H2_ := (Option.bind_some _ _).symm.trans H; with_reducible exact H2_) | with_reducible exact H | (rw [hy129]; exact H) | exact H
            have Ny129 := Aside0.mk hy129
            clear hy129
            replace H := Option.bind_eq_some_iff.mp H
            obtain ⟨t132, A90, H⟩ := H
            replace H : ((frame_more.f kj2 t132 l1).bind fun t133 => ((frame_four.f (wrap64 (Go.bits .xor .u32 4294967295 t133))).bind fun t134 => (if y129.length + t134.length < 140737488355328 then ((some (y129 ++ t134 : List Int)).bind fun y137 => (if y137.length + l1.length < 140737488355328 then (some ((y137 ++ l1), 0)) else (none))) else (none)))) = some (r1, r2) := H
            have A9 := Aside0.mk A90
            clear A90
            replace H := Option.bind_eq_some_iff.mp H
            obtain ⟨t133, A100, H⟩ := H
            replace H : ((frame_four.f (wrap64 (Go.bits .xor .u32 4294967295 t133))).bind fun t134 => (if y129.length + t134.length < 140737488355328 then ((some (y129 ++ t134 : List Int)).bind fun y137 => (if y137.length + l1.length < 140737488355328 then (some ((y137 ++ l1), 0)) else (none))) else (none))) = some (r1, r2) := H
            have A10 := Aside0.mk A100
            clear A100
            replace H := Option.bind_eq_some_iff.mp H
            obtain ⟨t134, A110, H⟩ := H
            replace H : (if y129.length + t134.length < 140737488355328 then ((some (y129 ++ t134 : List Int)).bind fun y137 => (if y137.length + l1.length < 140737488355328 then (some ((y137 ++ l1), 0)) else (none))) else (none)) = some (r1, r2) := H
            have A11 := Aside0.mk A110
            clear A110
            by_cases c12 : y129.length + t134.length < 140737488355328
            · rw [if_pos c12] at H
              have LMc12 := Aside0.mk c12
              clear c12
              obtain ⟨y137, hy137⟩ : ∃ y_ : List Int, y_ = (y129 ++ t134) := ⟨_, rfl⟩
              replace H : (if y137.length + l1.length < 140737488355328 then (some ((y137 ++ l1), 0)) else (none)) = some (r1, r2) := by first | (rw [hy137]; with_reducible exact H) | (have H2_ := (Option.bind_some _ _).symm.trans H; rw [hy137]; with_reducible exact H2_) | (have H2_ := (Option.bind_some _ _).symm.trans H; with_reducible exact H2_) | with_reducible exact H | (rw [hy137]; exact H) | exact H
              have Ny137 := Aside0.mk hy137
              clear hy137
              by_cases c13 : y137.length + l1.length < 140737488355328
              · rw [if_pos c13] at H
                have LMc13 := Aside0.mk c13
                clear c13
                obtain ⟨y140, hy140⟩ : ∃ y_ : List Int, y_ = (y137 ++ l1) := ⟨_, rfl⟩
                replace H : (some (y140, 0)) = some (r1, r2) := by first | (rw [hy140]; with_reducible exact H) | (have H2_ := (Option.bind_some _ _).symm.trans H; rw [hy140]; with_reducible exact H2_) | (have H2_ := (Option.bind_some _ _).symm.trans H; with_reducible exact H2_) | with_reducible exact H | (rw [hy140]; exact H) | exact H
                have Ny140 := Aside0.mk hy140
                clear hy140
                simp only [Option.some.injEq, Prod.mk.injEq] at H
                obtain ⟨rfl, rfl⟩ := H
                go_wp2_with (first | ((with_reducible refine gate_dst (N := 21) rfl ?_); refine Kd.R_lit (Kd.int .u8) _ 5 ?hg (N := 21) ?hd (xs := ([(a0) % 256] : List Int)) (inner := [.int .u8 ((a0) % 256)]) (ok := fun _ => True) (okp := fun _ => True) ?hr ?hp (fun _ hk => hk) trivial (Below.refl _ _) (Nat.le_refl _) (by simp) ?_; (case hd => rfl); (case hg => rfl); (case hr => first | (go_simp; done) | (go_simp; rfl)); (case hp => exact (Reps.one (show Kd.M (Kd.int .u8) _ _ _ ((a0) % 256) [.int .u8 ((a0) % 256)] from rfl) (Reps.none _ _))); intro v124 w14 ho15 hb hg_ hnew_; clear hg_ hnew_; (first | rw [← Ny123.out] at ho15 | (simp only [Int.reduceToNat] at ho15; rw [← Ny123.out] at ho15)); have n0_ := Aside0.mk (Kd.R_lower ho15 (below_size (by repeat (first | (with_reducible first | exact HB.out | apply below_alloc | apply pw_below_drewN | apply below_drew1) | exact HB.out)))); have n1_ := Aside0.mk (below_step (by repeat (first | (with_reducible first | exact HB.out | apply below_alloc | apply pw_below_drewN | apply below_drew1) | exact HB.out)) hb); clear HB; have HO125 := n0_; have HB := n1_; clear n0_ n1_; clear hb ho15) | ((with_reducible refine gate_callee (f := 59) rfl ?_); refine goesL_ (some 24) rfl rfl Try.func59 (by kernel_rfl) rfl #[.int .i64 (l1.length : Int)] rfl (by (try simp only [List.map_toArray, List.map_cons, List.map_nil]); first | done | rfl | (simp only [List.length_drop, List.length_take]; rfl)) ?_; (with_reducible refine (frame_four.calls (l1.length : Int) t126 _ A7.out).mono ?_); rintro e w16 ⟨v127, rfl, ho0, hb⟩; refine ⟨_, rfl, ?_⟩; have n0_ := Aside0.mk (Kd.R_elder' (by (with_reducible repeat (first | apply Kd.R_alloc | apply Kd.R_drewN | apply Kd.R_drew)); exact HO125.out) (Kd.R_base ho0) hb); have n1_ := Aside0.mk (Kd.R_lower (Kd.R_new' ho0 (Kd.R_lt (by (with_reducible repeat (first | apply Kd.R_alloc | apply Kd.R_drewN | apply Kd.R_drew)); exact HO125.out))) (below_size (by repeat (first | (with_reducible first | exact HB.out | apply below_alloc | apply pw_below_drewN | apply below_drew1) | exact HB.out)))); have n2_ := Aside0.mk (below_step (by repeat (first | (with_reducible first | exact HB.out | apply below_alloc | apply pw_below_drewN | apply below_drew1) | exact HB.out)) hb); clear HO125; clear HB; have HO125 := n0_; have HO128 := n1_; have HB := n2_; clear n0_ n1_ n2_; (try clear hb); (try clear hb2); (try clear hk); (try clear hi); (try clear ho0); obtain ⟨Ao18, co18, eo18⟩ := Kd.R_slice HO128.out; subst eo18) | ((with_reducible refine gate_builtin (b := .append) (xs := #[.tmp 21, .tmp 24]) rfl ?_); at_builtin; refine Kd.R_append_rows (Kd.int .u8) (w0 := w) w.heap.size rfl (.tmp 21) (.tmp 24) 22 5 (.int .u8 0) 1 rfl Try.underlying22 info5 rfl (by decide) (by omega) v124 y123 t126 _ _ _ (fun k_ => some k_ ≠ (.slice Ao18 t126.length co18 : Value).ownBlock) (fun _ => False) rfl rfl ?aO ?aR (fun _ _ h => h) (fun _ h => h.elim) ?aF ?aB ?aS ?aL ?_; (case aR => repeat (first | exact (Kd.R_reads' HO128.out).2.2 | (with_reducible refine Kd.C_alloc ?_ _) | (with_reducible refine Kd.C_drewN ?_ _) | (with_reducible refine Kd.C_drew ?_))); (case aB => exact (by repeat (first | (with_reducible first | exact HB.out | apply below_alloc | apply pw_below_drewN | apply below_drew1) | exact HB.out))); (case aF => exact (fun k_ hk => Kd.fresh' (Kd.R_lt (by (with_reducible repeat (first | apply Kd.R_alloc | apply Kd.R_drewN | apply Kd.R_drew)); exact HO128.out)) k_ hk)); (case aO => exact (by (with_reducible repeat (first | apply Kd.R_alloc | apply Kd.R_drewN | apply Kd.R_drew)); exact Kd.R_mono HO125.out (fun _ hk => hk.2))); (case aS => exact (below_size (by repeat (first | (with_reducible first | exact HB.out | apply below_alloc | apply pw_below_drewN | apply below_drew1) | exact HB.out)))); (case aL => have := LMc8.out; omega); intro v130 w17 ho hb hg hat; rw [← Ny129.out] at ho; have n0_ := Aside0.mk (Kd.R_after (ok := (fun _ => True)) (by (with_reducible repeat (first | apply Kd.R_alloc | apply Kd.R_drewN | apply Kd.R_drew)); exact HO128.out) hg hat); have n1_ := Aside0.mk (hb); have n2_ := Aside0.mk (ho); clear HO128; clear HB; clear HO125; have HO128 := n0_; have HB := n1_; have HO131 := n2_; clear n0_ n1_ n2_; clear ho hb hg hat; obtain ⟨Ao19, co19, eo19⟩ := Kd.R_slice HO131.out; subst eo19) | ((with_reducible refine gate_callee (f := 51) rfl ?_); refine goesL_ (some 27) rfl rfl Try.func51 (by kernel_rfl) rfl #[.int .u32 4294967295, .slice Ao19 y129.length co19] rfl (by (try simp only [List.map_toArray, List.map_cons, List.map_nil]); first | done | rfl | (simp only [List.length_drop, List.length_take]; rfl)) ?_; (with_reducible refine (frame_more.calls kj2 4294967295 _ _ y129 t132 _ ?side1 ?side2 A9.out).mono ?_); (case side1 => repeat (first | exact (Kd.R_reads' HO131.out).2.2 | (with_reducible refine Kd.C_alloc ?_ _) | (with_reducible refine Kd.C_drewN ?_ _) | (with_reducible refine Kd.C_drew ?_))); (case side2 => exact (Kd.R_reads' HO131.out).2.1); rintro e w' ⟨rfl, ⟨nd, rfl⟩⟩; refine ⟨_, rfl, ?_⟩) | ((with_reducible refine gate_callee (f := 51) rfl ?_); refine goesL_ (some 29) rfl rfl Try.func51 (by kernel_rfl) rfl #[.int .u32 t132, .slice A1 l1.length c1] rfl (by (try simp only [List.map_toArray, List.map_cons, List.map_nil]); first | done | rfl | (simp only [List.length_drop, List.length_take]; rfl)) ?_; (with_reducible refine (frame_more.calls kj2 t132 _ _ l1 t133 _ ?side1 ?side2 A10.out).mono ?_); (case side1 => repeat (first | exact (Kd.C_below HR1.out (by repeat (first | (with_reducible first | exact HB.out | apply below_alloc | apply pw_below_drewN | apply below_drew1) | exact HB.out))) | (with_reducible refine Kd.C_alloc ?_ _) | (with_reducible refine Kd.C_drewN ?_ _) | (with_reducible refine Kd.C_drew ?_))); (case side2 => exact HC1.out); rintro e w' ⟨rfl, ⟨nd, rfl⟩⟩; refine ⟨_, rfl, ?_⟩) | ((with_reducible refine gate_callee (f := 59) rfl ?_); refine goesL_ (some 34) rfl rfl Try.func59 (by kernel_rfl) rfl #[.int .i64 (wrap64 (Go.bits .xor .u32 4294967295 t133))] rfl (by (try simp only [List.map_toArray, List.map_cons, List.map_nil]); first | done | rfl | (simp only [List.length_drop, List.length_take]; rfl)) ?_; (with_reducible refine (frame_four.calls (wrap64 (Go.bits .xor .u32 4294967295 t133)) t134 _ A11.out).mono ?_); rintro e w20 ⟨v135, rfl, ho0, hb⟩; refine ⟨_, rfl, ?_⟩; have n0_ := Aside0.mk (Kd.R_elder' (by (with_reducible repeat (first | apply Kd.R_alloc | apply Kd.R_drewN | apply Kd.R_drew)); exact HO128.out) (Kd.R_base ho0) hb); have n1_ := Aside0.mk (Kd.R_elder' (by (with_reducible repeat (first | apply Kd.R_alloc | apply Kd.R_drewN | apply Kd.R_drew)); exact HO131.out) (Kd.R_base ho0) hb); have n2_ := Aside0.mk (Kd.R_lower (Kd.R_new' (Kd.R_new' ho0 (Kd.R_lt (by (with_reducible repeat (first | apply Kd.R_alloc | apply Kd.R_drewN | apply Kd.R_drew)); exact HO128.out))) (Kd.R_lt (by (with_reducible repeat (first | apply Kd.R_alloc | apply Kd.R_drewN | apply Kd.R_drew)); exact HO131.out))) (below_size (by repeat (first | (with_reducible first | exact HB.out | apply below_alloc | apply pw_below_drewN | apply below_drew1) | exact HB.out)))); have n3_ := Aside0.mk (below_step (by repeat (first | (with_reducible first | exact HB.out | apply below_alloc | apply pw_below_drewN | apply below_drew1) | exact HB.out)) hb); clear HO128; clear HO131; clear HB; have HO128 := n0_; have HO131 := n1_; have HO136 := n2_; have HB := n3_; clear n0_ n1_ n2_ n3_; (try clear hb); (try clear hb2); (try clear hk); (try clear hi); (try clear ho0); obtain ⟨Ao22, co22, eo22⟩ := Kd.R_slice HO136.out; subst eo22) | ((with_reducible refine gate_builtin (b := .append) (xs := #[.tmp 31, .tmp 34]) rfl ?_); at_builtin; refine Kd.R_append_rows (Kd.int .u8) (w0 := w) w.heap.size rfl (.tmp 31) (.tmp 34) 22 5 (.int .u8 0) 1 rfl Try.underlying22 info5 rfl (by decide) (by omega) (.slice Ao19 y129.length co19) y129 t134 _ _ _ (fun k_ => some k_ ≠ (.slice Ao18 t126.length co18 : Value).ownBlock ∧ some k_ ≠ (.slice Ao22 t134.length co22 : Value).ownBlock) (fun _ => False) rfl rfl ?aO ?aR (fun _ _ h => h) (fun _ h => h.elim) ?aF ?aB ?aS ?aL ?_; (case aR => repeat (first | exact (Kd.R_reads' HO136.out).2.2 | (with_reducible refine Kd.C_alloc ?_ _) | (with_reducible refine Kd.C_drewN ?_ _) | (with_reducible refine Kd.C_drew ?_))); (case aB => exact (by repeat (first | (with_reducible first | exact HB.out | apply below_alloc | apply pw_below_drewN | apply below_drew1) | exact HB.out))); (case aF => exact (fun k_ hk => ⟨Kd.fresh' (Kd.R_lt (by (with_reducible repeat (first | apply Kd.R_alloc | apply Kd.R_drewN | apply Kd.R_drew)); exact HO128.out)) k_ hk, Kd.fresh' (Kd.R_lt (by (with_reducible repeat (first | apply Kd.R_alloc | apply Kd.R_drewN | apply Kd.R_drew)); exact HO136.out)) k_ hk⟩)); (case aO => exact (by (with_reducible repeat (first | apply Kd.R_alloc | apply Kd.R_drewN | apply Kd.R_drew)); exact HO131.out)); (case aS => exact (below_size (by repeat (first | (with_reducible first | exact HB.out | apply below_alloc | apply pw_below_drewN | apply below_drew1) | exact HB.out)))); (case aL => have := LMc12.out; omega); intro v138 w21 ho hb hg hat; rw [← Ny137.out] at ho; have n0_ := Aside0.mk (Kd.R_after (ok := (fun k_ => some k_ ≠ (.slice Ao22 t134.length co22 : Value).ownBlock)) (by (with_reducible repeat (first | apply Kd.R_alloc | apply Kd.R_drewN | apply Kd.R_drew)); exact Kd.R_mono HO128.out (fun _ hk => by first | exact ⟨hk.2, hk.1.2⟩ | simp_all)) hg hat); have n1_ := Aside0.mk (Kd.R_after (ok := (fun k_ => some k_ ≠ (.slice Ao18 t126.length co18 : Value).ownBlock)) (by (with_reducible repeat (first | apply Kd.R_alloc | apply Kd.R_drewN | apply Kd.R_drew)); exact Kd.R_mono HO136.out (fun _ hk => by first | exact ⟨hk.1.2, hk.2⟩ | simp_all)) hg hat); have n2_ := Aside0.mk (hb); have n3_ := Aside0.mk (ho); clear HO128; clear HO136; clear HB; clear HO131; have HO128 := n0_; have HO136 := n1_; have HB := n2_; have HO139 := n3_; clear n0_ n1_ n2_ n3_; clear ho hb hg hat) | ((with_reducible refine gate_builtin (b := .append) (xs := #[.tmp 35, .tmp 36]) rfl ?_); at_builtin; refine Kd.R_append_rows (Kd.int .u8) (w0 := w) w.heap.size rfl (.tmp 35) (.tmp 36) 22 5 (.int .u8 0) 1 rfl Try.underlying22 info5 rfl (by decide) (by omega) v138 y137 l1 _ _ _ (fun k_ => some k_ ≠ (.slice Ao18 t126.length co18 : Value).ownBlock ∧ some k_ ≠ (.slice Ao22 t134.length co22 : Value).ownBlock) (fun _ => False) rfl rfl ?aO ?aR (fun _ _ h => h) (fun _ h => h.elim) ?aF ?aB ?aS ?aL ?_; (case aR => repeat (first | exact (Kd.C_below HR1.out HB.out) | (with_reducible refine Kd.C_alloc ?_ _) | (with_reducible refine Kd.C_drewN ?_ _) | (with_reducible refine Kd.C_drew ?_))); (case aB => exact (by repeat (first | (with_reducible first | exact HB.out | apply below_alloc | apply pw_below_drewN | apply below_drew1) | exact HB.out))); (case aF => exact (fun k_ hk => ⟨Kd.fresh' (Kd.R_lt (by (with_reducible repeat (first | apply Kd.R_alloc | apply Kd.R_drewN | apply Kd.R_drew)); exact HO128.out)) k_ hk, Kd.fresh' (Kd.R_lt (by (with_reducible repeat (first | apply Kd.R_alloc | apply Kd.R_drewN | apply Kd.R_drew)); exact HO136.out)) k_ hk⟩)); (case aO => exact (by (with_reducible repeat (first | apply Kd.R_alloc | apply Kd.R_drewN | apply Kd.R_drew)); exact HO139.out)); (case aS => exact (below_size (by repeat (first | (with_reducible first | exact HB.out | apply below_alloc | apply pw_below_drewN | apply below_drew1) | exact HB.out)))); (case aL => have := LMc13.out; omega); intro v141 w23 ho hb hg hat; rw [← Ny140.out] at ho; have n0_ := Aside0.mk (Kd.R_after (ok := (fun k_ => some k_ ≠ (.slice Ao22 t134.length co22 : Value).ownBlock)) (by (with_reducible repeat (first | apply Kd.R_alloc | apply Kd.R_drewN | apply Kd.R_drew)); exact HO128.out) hg hat); have n1_ := Aside0.mk (Kd.R_after (ok := (fun k_ => some k_ ≠ (.slice Ao18 t126.length co18 : Value).ownBlock)) (by (with_reducible repeat (first | apply Kd.R_alloc | apply Kd.R_drewN | apply Kd.R_drew)); exact HO136.out) hg hat); have n2_ := Aside0.mk (hb); have n3_ := Aside0.mk (ho); clear HO128; clear HO136; clear HB; clear HO139; have HO128 := n0_; have HO136 := n1_; have HB := n2_; have HO142 := n3_; clear n0_ n1_ n2_ n3_; clear ho hb hg hat))
                go_ret2
                exact ⟨_, by first | rfl | (simp [errW_none, errW_some] <;> rfl) | (simp [*, errW_none, errW_some] <;> rfl), by (with_reducible repeat (first | apply Kd.R_alloc | apply Kd.R_drewN | apply Kd.R_drew)); exact Kd.R_mono HO142.out (fun _ hk => trivial), by repeat (first | (with_reducible first | exact HB.out | apply below_alloc | apply pw_below_drewN | apply below_drew1) | exact HB.out)⟩
              · rw [if_neg c13] at H
                exact absurd H (by simp)
            · rw [if_neg c12] at H
              exact absurd H (by simp)
          · rw [if_neg c8] at H
            exact absurd H (by simp)

end Go.Proofs.Ytjilnpbgclnecab.PFrameRows
