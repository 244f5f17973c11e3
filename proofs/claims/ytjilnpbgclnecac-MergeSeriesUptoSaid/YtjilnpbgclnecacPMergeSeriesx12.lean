/- Written by a program of this session out of the translation: for Go functions Lean functions of the same answers, and the proof that the calls come to these answers. -/
import Derived.Test.YtjilnpbgclnecacXSortRow
import Derived.Test.YtjilnpbgclnecacXHand
import Derived.Test.YtjilnpbgclnecacPMergeSeriesx0
import Derived.Test.YtjilnpbgclnecacPMergeSeriesx5
import Derived.Test.YtjilnpbgclnecacPMergeSeriesx7
import Derived.Test.YtjilnpbgclnecacPMergeSeriesx8
import Derived.Test.YtjilnpbgclnecacPMergeSeriesx11
namespace Go.Proofs.Ytjilnpbgclnecac.PMergeSeries
open Go.RowKit Go.Proofs.YtjilnpbgclnecacW.PrintWords Go.Proofs.YtjilnpbgclnecacW.PrintLast Go.Proofs.YtjilnpbgclnecacW.PrintMore Go.Proofs.Ytjilnpbgclnecac.XB
attribute [local go_sem] sg_u8 sg_u16 sg_u32 sg_u64 mx_u8 mx_u16 mx_u32 mx_u64
attribute [local go_sem] max2_int min2_int max_two min_two max_three min_three max_four min_four   -- for this text's walks alone
set_option linter.unusedVariables false
set_option linter.unusedSimpArgs false

/-! ### lysimeterlaw18_MergeSeries: function 10 -/
/-! ### the law -/
def lysimeterlaw18_MergeSeries.wsum (n : Int) (x : List S78) : Int := x.foldl (fun n e => wrap64 (wrap64 (n + 1) + (e.f1.length : Int))) n
def lysimeterlaw18_MergeSeries.lp (k : Nat) : List (List S78) → Int → Option Bool
  | [], _ => some false
  | x :: l, n => (lysimeterlaw16_Big.f k x).bind fun b => if b = true then some true else if lysimeterlaw18_MergeSeries.wsum n x > 2000 then some true else lysimeterlaw18_MergeSeries.lp k l (lysimeterlaw18_MergeSeries.wsum n x)
def lysimeterlaw18_MergeSeries.Good (k : Nat) (l0 : List (List S78)) : Prop := merge_Series.fits l0 ∧ lysimeterref11_SameSeries.f k (merge_Series.ser l0.flatten) (merge_Series.ser l0.flatten) = some true
open Classical in
noncomputable def lysimeterlaw18_MergeSeries.f (k : Nat) (l0 : List (List S78)) : Option Bool :=
  if lysimeterlaw18_alive.f = some true ∧ l0.length < 9223372036854775807 then
    (if l0.length > 20 then some true else (lysimeterlaw18_MergeSeries.lp k l0 0).bind fun b => if b = true then some true else if lysimeterlaw18_MergeSeries.Good k l0 then some true else none)
  else none
theorem lysimeterlaw18_MergeSeries.lp_mono (k : Nat) : ∀ (l : List (List S78)) (n : Int), LeO (lysimeterlaw18_MergeSeries.lp k l n) (lysimeterlaw18_MergeSeries.lp (k + 1) l n)
  | [], _ => LeO.refl _
  | x :: l, n => by
    unfold lysimeterlaw18_MergeSeries.lp
    refine LeO.bind (lysimeterlaw16_Big.mono _ _) (fun b => LeO.ite (LeO.refl _) (LeO.ite (LeO.refl _) (lysimeterlaw18_MergeSeries.lp_mono k l _)))
theorem lysimeterlaw18_MergeSeries.mono (l0 : List (List S78)) : ∀ k, LeO (lysimeterlaw18_MergeSeries.f k l0) (lysimeterlaw18_MergeSeries.f (k + 1) l0) := by
  intro k
  unfold lysimeterlaw18_MergeSeries.f
  refine LeO.ite (LeO.ite (LeO.refl _) (LeO.bind (lysimeterlaw18_MergeSeries.lp_mono k l0 0) (fun b => LeO.ite (LeO.refl _) ?_))) (LeO.none _)
  intro r h
  split at h
  · rename_i hg
    rw [if_pos ⟨hg.1, lysimeterref11_SameSeries.mono _ _ _ _ hg.2⟩]
    exact h
  · cases h
-- WALK
/-! ### series wiped -/
section
open Go.Proofs.Ytjilnpbgclnecac.XH Go.Proofs.Ytjilnpbgclnecac.XSr
/-- A series whose rows are the call's own: blocks of the right types, long enough. -/
def lysimeterlaw18_MergeSeries.wipe_V (base : Nat) (W : World) (h : merge_Series.H) : Prop :=
  (h.x.f0.length = 0 ∨ ∃ g cur, h.A = some ⟨g, 0, none⟩ ∧ base ≤ g ∧ W.heap[g]? = some (.cells cur 63 (0, 0)) ∧ h.x.f0.length * 2 ≤ cur.size ∧ h.x.f0.length ≤ 9223372036854775807) ∧
  (h.x.f1.length = 0 ∨ ∃ g cur, h.B = some ⟨g, 0, none⟩ ∧ base ≤ g ∧ W.heap[g]? = some (.cells cur 54 (0, 0)) ∧ h.x.f1.length * 2 ≤ cur.size ∧ h.x.f1.length ≤ 9223372036854775807)
theorem lysimeterlaw18_MergeSeries.wipe_V.set {base : Nat} {W : World} {h : merge_Series.H} (v : lysimeterlaw18_MergeSeries.wipe_V base W h) (g j : Nat) (u : Value) : lysimeterlaw18_MergeSeries.wipe_V base (W.setCell ⟨g, j, none⟩ u) h := by
  have key : ∀ {g' t : Nat} {cur : Array Value}, W.heap[g']? = some (.cells cur t (0, 0)) → ∃ cur', (W.setCell ⟨g, j, none⟩ u).heap[g']? = some (.cells cur' t (0, 0)) ∧ cur'.size = cur.size := by
    intro g' t cur hh
    by_cases e : g' = g
    · subst e
      exact ⟨_, blk_set hh j u, by simp⟩
    · exact ⟨cur, blk_far hh (p := ⟨g, j, none⟩) e u, rfl⟩
  refine ⟨v.1.imp id ?_, v.2.imp id ?_⟩
  · rintro ⟨g', cur, h1, h2, h3, h4⟩
    obtain ⟨cur', h5, h6⟩ := key h3
    exact ⟨g', cur', h1, h2, h5, by rw [h6]; exact h4.1, h4.2⟩
  · rintro ⟨g', cur, h1, h2, h3, h4⟩
    obtain ⟨cur', h5, h6⟩ := key h3
    exact ⟨g', cur', h1, h2, h5, by rw [h6]; exact h4.1, h4.2⟩
theorem lysimeterlaw18_MergeSeries.wipe_V.below {base : Nat} {W W' : World} {h : merge_Series.H} (v : lysimeterlaw18_MergeSeries.wipe_V base W h) (hb : Below W.heap.size W W') : lysimeterlaw18_MergeSeries.wipe_V base W' h :=
  ⟨v.1.imp id (fun ⟨g, cur, h1, h2, h3, h4⟩ => ⟨g, cur, h1, h2, blk_below h3 hb, h4⟩), v.2.imp id (fun ⟨g, cur, h1, h2, h3, h4⟩ => ⟨g, cur, h1, h2, blk_below h3 hb, h4⟩)⟩
theorem lysimeterlaw18_MergeSeries.wipe_row {α : Type} {d : Kd α} {e base : Nat} {W : World} {ok : Nat → Prop} {v : Value} {xs : List α} (hs : d.sz = 2) (h : Kd.R d e W base ok v xs) : ∃ A c, v = .slice A xs.length c ∧ (xs.length = 0 ∨ ∃ g cur, A = some ⟨g, 0, none⟩ ∧ base ≤ g ∧ W.heap[g]? = some (.cells cur e (0, 0)) ∧ xs.length * 2 ≤ cur.size ∧ xs.length ≤ 9223372036854775807) := by
  obtain ⟨A, c, rfl⟩ := Kd.R_slice h
  refine ⟨A, c, rfl, ?_⟩
  obtain ⟨inner, ho⟩ := Kd.R_own h
  rcases ho.2 with ⟨hv, hn⟩ | ⟨g, cap, cur, hv, hb, hh, h1, h2, h3, h4⟩
  · exact .inl hn
  · injection hv with hv1 _ _
    exact .inr ⟨g, cur, hv1, hb, hh, by rw [h3, hs]; exact Nat.mul_le_mul_right _ h1, Nat.le_trans h1 h2⟩
theorem lysimeterlaw18_MergeSeries.wipe_lift {W : World} {base : Nat} {v : Value} {xs : List S78} (h : Kd.R k78 78 W base (fun _ => True) v xs) : ∃ hs : List merge_Series.H, hs.length = xs.length ∧ merge_Series.kH.R 78 W base (fun _ => True) v hs ∧ ∀ q ∈ hs, lysimeterlaw18_MergeSeries.wipe_V base W q := by
  obtain ⟨_, inner, hown, hrep⟩ := h
  have key : ∀ j : Fin xs.length, ∃ q : merge_Series.H, ((inner.drop (j.val * 2)).take 2) = merge_Series.enc q ∧ lysimeterlaw18_MergeSeries.wipe_V base W q := by
    intro j
    have hm := hrep.2 j.val xs[j.val] (List.getElem?_eq_getElem j.isLt)
    obtain ⟨v0, v1, hcs, hr0, hr1⟩ := k78_openM hm
    obtain ⟨A, c, rfl, ha⟩ := lysimeterlaw18_MergeSeries.wipe_row rfl hr0
    obtain ⟨B, d, rfl, hb⟩ := lysimeterlaw18_MergeSeries.wipe_row rfl hr1
    exact ⟨⟨A, c, B, d, xs[j.val]⟩, hcs, ha, hb⟩
  refine ⟨List.ofFn fun j => Classical.choose (key j), by simp, ⟨fun _ _ => trivial, inner, ?_, ?_, ?_⟩, ?_⟩
  · rw [List.length_ofFn]; exact hown
  · rw [List.length_ofFn]; exact hrep.1
  · intro j p hj
    have hjn : j < xs.length := by
      have := (List.getElem?_eq_some_iff.1 hj).1
      simpa using this
    rw [List.getElem?_ofFn, dif_pos hjn] at hj
    have e := Option.some.inj hj
    subst e
    exact (Classical.choose_spec (key ⟨j, hjn⟩)).1
  · intro q hq
    obtain ⟨j, rfl⟩ := List.mem_ofFn.1 hq
    exact (Classical.choose_spec (key j)).2
/-- The cells that a store of two cells meets. -/
theorem lysimeterlaw18_MergeSeries.wipe_two {W : World} {g t j : Nat} {cur : Array Value} (h : W.heap[g]? = some (.cells cur t (0, 0))) (hj : j + 1 < cur.size) (u : Value) :
    ∃ y0 y1, W.cell? ⟨g, j, none⟩ = some y0 ∧ W.frozen? ⟨g, j, none⟩ = false ∧ (W.setCell ⟨g, j, none⟩ u).cell? ⟨g, j + 1, none⟩ = some y1 ∧ (W.setCell ⟨g, j, none⟩ u).frozen? ⟨g, j + 1, none⟩ = false := by
  refine ⟨cur[j], cur[j + 1], ?_, blk_frozen h _, ?_, blk_frozen (blk_set h j u) _⟩
  · rw [blk_cell h, Array.getElem?_eq_getElem (by omega)]
  · rw [blk_cell (blk_set h j u), Array.getElem?_setIfInBounds_ne (by omega), Array.getElem?_eq_getElem hj]
structure lysimeterlaw18_MergeSeries.wipe_St (base : Nat) (W0 W : World) (n : Nat) (v : Value) (hs : List merge_Series.H) : Prop where
  len : hs.length = n
  row : merge_Series.kH.R 78 W base (fun _ => True) v hs
  own : ∀ q ∈ hs, lysimeterlaw18_MergeSeries.wipe_V base W q
  below : Below base W0 W
theorem lysimeterlaw18_MergeSeries.wipe_St.set {base n g t j : Nat} {W0 W : World} {v : Value} {hs : List merge_Series.H} {cur : Array Value} (s : lysimeterlaw18_MergeSeries.wipe_St base W0 W n v hs) (hh : W.heap[g]? = some (.cells cur t (0, 0))) (ht : t ≠ 78) (hg : base ≤ g) (u : Value) : lysimeterlaw18_MergeSeries.wipe_St base W0 (W.setCell ⟨g, j, none⟩ u) n v hs :=
  ⟨s.len, Kd.R_set s.row hh (fun q hq => by rcases List.mem_cons.1 hq with rfl | hq; exact Ne.symm ht; cases hq) j u, fun q hq => (s.own q hq).set g j u, s.below.setCell (p := ⟨g, j, none⟩) hg u⟩
def lysimeterlaw18_MergeSeries.wipe_hz : merge_Series.H := ⟨none, 0, none, 0, ⟨[], []⟩⟩
theorem lysimeterlaw18_MergeSeries.wipe_St.zero {base n cap i g : Nat} {W0 W : World} {hs : List merge_Series.H} (s : lysimeterlaw18_MergeSeries.wipe_St base W0 W n (.slice (some ⟨g, 0, none⟩) n cap) hs) (hi : i < n) :
    ∃ y0 y1, W.cell? ⟨g, i * 2, none⟩ = some y0 ∧ W.frozen? ⟨g, i * 2, none⟩ = false ∧ (W.setCell ⟨g, i * 2, none⟩ (.slice none 0 0)).cell? ⟨g, i * 2 + 1, none⟩ = some y1 ∧ (W.setCell ⟨g, i * 2, none⟩ (.slice none 0 0)).frozen? ⟨g, i * 2 + 1, none⟩ = false ∧
      lysimeterlaw18_MergeSeries.wipe_St base W0 ((W.setCell ⟨g, i * 2, none⟩ (.slice none 0 0)).setCell ⟨g, i * 2 + 1, none⟩ (.slice none 0 0)) n (.slice (some ⟨g, 0, none⟩) n cap) (hs.set i lysimeterlaw18_MergeSeries.wipe_hz) := by
  have hl := s.len
  have hro : merge_Series.kH.R 78 W base (fun _ => True) (.slice (some ⟨g, 0, none⟩) n cap) hs := s.row
  obtain ⟨_, inner, hown, _⟩ := id hro
  have hbg := own_base hown g rfl
  rcases hown.2 with ⟨hv, _⟩ | ⟨g', cap', cur, hv, hb, hh, h1, h2, h3, h4⟩
  · cases hv
  injection hv with hv1 _ hv3
  injection hv1 with hv1
  injection hv1 with hv1
  subst hv1 hv3
  have hsz : i * 2 + 1 < cur.size := by
    rw [h3]
    show i * 2 + 1 < cap * 2
    omega
  obtain ⟨y0, y1, a1, a2, a3, a4⟩ := lysimeterlaw18_MergeSeries.wipe_two hh hsz (.slice none 0 0)
  refine ⟨y0, y1, a1, a2, a3, a4, by rw [List.length_set]; exact hl, ?_, fun q hq => ?_, ?_⟩
  · have hcc : ∀ j u, [y0, cur[i * 2 + 1]][j]? = some u → W.cell? ⟨g, (i : Int).toNat * merge_Series.kH.sz + j, none⟩ = some u := by
      intro j u hu
      rw [Int.toNat_natCast]
      rcases j with _ | _ | j
      · rw [← hu]; exact a1
      · rw [← hu]
        show W.cell? ⟨g, i * 2 + 1, none⟩ = _
        rw [blk_cell hh, Array.getElem?_eq_getElem hsz]
        rfl
      · simp at hu
    have := Kd.R_seg (okp := fun _ => False) (j := 0) (seg := [.slice none 0 0, .slice none 0 0]) (x' := lysimeterlaw18_MergeSeries.wipe_hz) hro (i : Int) (by omega) (by omega) (c := [y0, cur[i * 2 + 1]]) rfl hcc (Nat.le_refl 2) rfl (fun _ h => h.elim)
    rw [Int.toNat_natCast] at this
    exact this.1
  · rcases List.mem_or_eq_of_mem_set hq with hq | rfl
    · exact ((s.own q hq).set g (i * 2) _).set g (i * 2 + 1) _
    · exact ⟨.inl rfl, .inl rfl⟩
  · exact (s.below.setCell (p := ⟨g, i * 2, none⟩) hbg _).setCell (p := ⟨g, i * 2 + 1, none⟩) hbg _
set_option maxHeartbeats 8000000 in
set_option maxRecDepth 100000 in
theorem lysimeterlaw18_MergeSeries.wipes (base : Nat) (W0 : World) (v : Value) (xs : List S78) (h : Kd.R k78 78 W0 base (fun _ => True) v xs) : Calls Try.prog 48 #[v] W0 fun e w' => e = .returned (.tuple #[]) ∧ Below base W0 w' := by
  obtain ⟨hs, hlen, hrow, hown⟩ := lysimeterlaw18_MergeSeries.wipe_lift h
  obtain ⟨A, cap, rfl⟩ := Kd.R_slice h
  have hnl : xs.length ≤ 9223372036854775807 := (Kd.R_reads' h).2.2.2.1
  obtain ⟨n, hn⟩ : ∃ n, n = xs.length := ⟨_, rfl⟩
  have HS := Aside0.mk (show lysimeterlaw18_MergeSeries.wipe_St base W0 W0 n (.slice A n cap) hs from ⟨by rw [hn]; exact hlen, by rw [hn]; exact hrow, hown, Below.refl _ _⟩)
  rw [← hn] at hnl ⊢
  clear h hlen hrow hown hn
  go_enter Try.func48, Try.ntmps48
  go_wp2_with fail
  go_loopg [2] n (fun kx v2 wr => ∃ (i : Nat) (hs : List merge_Series.H), v2 = .int .i64 i ∧ i ≤ n ∧ n - i ≤ kx ∧ Aside0 (lysimeterlaw18_MergeSeries.wipe_St base W0 wr n (.slice A n cap) hs))
  case atStart => exact ⟨0, hs, rfl, Nat.zero_le _, Nat.le_refl _, HS⟩
  case round =>
    clear HS
    obtain ⟨i, hs, rfl, hi, hkx, HS⟩ := hrel
    by_cases hlt : i < n
    · have hltz : (i : Int) < (n : Int) := by omega
      have hi0 : (0 : Int) ≤ (i : Int) := by omega
      have hih : i < hs.length := by rw [HS.out.len]; exact hlt
      obtain ⟨g, cap2, e3, hg1, hg2, _⟩ := Kd.R_form HS.out.row (by rw [HS.out.len]; omega)
      injection e3 with e3a e3b e3c
      clear e3b
      subst e3a e3c
      have HRD := Aside0.mk (show ∀ W : World, lysimeterlaw18_MergeSeries.wipe_St base W0 W n (.slice (some ⟨g, 0, none⟩) n cap) hs → W.cell? ⟨g, i * 2, none⟩ = some (.slice hs[i].A hs[i].x.f0.length hs[i].c) ∧ W.cell? ⟨g, i * 2 + 1, none⟩ = some (.slice hs[i].B hs[i].x.f1.length hs[i].d) from fun W s => by
        obtain ⟨ad, hA, h1, h2⟩ := merge_Series.at_H (Kd.R_reads' s.row).2.2 i hih hih
        injection hA with hA
        subst hA
        rw [add_plain] at h1 h2
        exact ⟨h1, h2⟩)
      obtain ⟨q, hq⟩ : ∃ q, q = hs[i] := ⟨_, rfl⟩
      rw [← hq] at HRD
      have HQ := Aside0.mk (show q ∈ hs by rw [hq]; exact List.getElem_mem hih)
      clear hq hg1 hg2 hih
      obtain ⟨qA, qc, qB, qd, qx⟩ := q
      dsimp only at HRD
      obtain ⟨n0, hn0⟩ : ∃ n0, n0 = qx.f0.length := ⟨_, rfl⟩
      obtain ⟨n1, hn1⟩ : ∃ n1, n1 = qx.f1.length := ⟨_, rfl⟩
      rw [← hn0, ← hn1] at HRD
      have HN0 := Aside0.mk hn0
      have HN1 := Aside0.mk hn1
      clear hn0 hn1
      go_upto_block 2 with fail
      go_cut [] (fun wx => lysimeterlaw18_MergeSeries.wipe_St base W0 wx n (.slice (some ⟨g, 0, none⟩) n cap) hs)
      case first =>
        go_wp2_with fail
        go_loopg [3] n1 (fun kx v3 wr => ∃ k : Nat, v3 = .int .i64 k ∧ k ≤ n1 ∧ n1 - k ≤ kx ∧ Aside0 (lysimeterlaw18_MergeSeries.wipe_St base W0 wr n (.slice (some ⟨g, 0, none⟩) n cap) hs))
        case atStart => exact ⟨0, rfl, Nat.zero_le _, Nat.le_refl _, HS⟩
        case round =>
          clear HS
          obtain ⟨k, rfl, hk, hkx1, HS⟩ := hrel
          obtain ⟨y0, y1⟩ := HRD.out wr HS.out
          by_cases hlk : k < n1
          · have hlkz : (k : Int) < (n1 : Int) := by omega
            have hk0 : (0 : Int) ≤ (k : Int) := by omega
            rcases (HS.out.own _ HQ.out).2 with h0 | ⟨gB, cur, hB, hgB, hh, hc, hm⟩
            · have := HN1.out; dsimp only at h0; omega
            · dsimp only at hB hc hm
              rw [← HN1.out] at hc hm
              subst hB
              obtain ⟨z0, z1, a1, a2, a3, a4⟩ := lysimeterlaw18_MergeSeries.wipe_two (j := k * 2) hh (by omega) (.int .i64 (-1))
              have hkm : k ≤ 9223372036854775806 := by omega
              have HS2 := Aside0.mk (((HS.out.set (j := k * 2) hh (by decide) hgB (.int .i64 (-1))).set (j := k * 2 + 1) (blk_set hh (k * 2) (.int .i64 (-1))) (by decide) hgB (.int .i64 (-1))))
              clear hh hc hm hgB
              go_wp2_with fail
              go_roundg (n1 - (k + 1))
              case measure => omega
              case rel => exact ⟨k + 1, by go_num, hlk, Nat.le_refl _, HS2⟩
          · have hlkz : ¬ (k : Int) < (n1 : Int) := by omega
            go_wp2_with fail
            go_meet
            case rel => exact HS.out
      case rest =>
        have HS1 := Aside0.mk hcut
        clear hcut HS
        go_upto_block 4 with fail
        go_cut [] (fun wx => lysimeterlaw18_MergeSeries.wipe_St base W0 wx n (.slice (some ⟨g, 0, none⟩) n cap) hs)
        case first =>
          go_wp2_with fail
          go_loopg [4] n0 (fun kx v4 wr => ∃ k : Nat, v4 = .int .i64 k ∧ k ≤ n0 ∧ n0 - k ≤ kx ∧ Aside0 (lysimeterlaw18_MergeSeries.wipe_St base W0 wr n (.slice (some ⟨g, 0, none⟩) n cap) hs))
          case atStart => exact ⟨0, rfl, Nat.zero_le _, Nat.le_refl _, HS1⟩
          case round =>
            clear HS1
            obtain ⟨k, rfl, hk, hkx1, HS⟩ := hrel
            obtain ⟨y0, y1⟩ := HRD.out wr HS.out
            by_cases hlk : k < n0
            · have hlkz : (k : Int) < (n0 : Int) := by omega
              have hk0 : (0 : Int) ≤ (k : Int) := by omega
              rcases (HS.out.own _ HQ.out).1 with h0 | ⟨gA, cur, hA, hgA, hh, hc, hm⟩
              · have := HN0.out; dsimp only at h0; omega
              · dsimp only at hA hc hm
                rw [← HN0.out] at hc hm
                subst hA
                obtain ⟨z0, z1, a1, a2, a3, a4⟩ := lysimeterlaw18_MergeSeries.wipe_two (j := k * 2) hh (by omega) (.string ⟨#[]⟩)
                have hkm : k ≤ 9223372036854775806 := by omega
                have HS2 := Aside0.mk (((HS.out.set (j := k * 2) hh (by decide) hgA (.string ⟨#[]⟩)).set (j := k * 2 + 1) (blk_set hh (k * 2) (.string ⟨#[]⟩)) (by decide) hgA (.string ⟨#[]⟩)))
                clear hh hc hm hgA
                go_wp2_with fail
                go_roundg (n0 - (k + 1))
                case measure => omega
                case rel => exact ⟨k + 1, by go_num, hlk, Nat.le_refl _, HS2⟩
            · have hlkz : ¬ (k : Int) < (n0 : Int) := by omega
              go_wp2_with fail
              go_meet
              case rel => exact HS.out
        case rest =>
          have HS2 := Aside0.mk hcut
          clear hcut HS1 HRD HQ HN0 HN1
          obtain ⟨y0, y1, a1, a2, a3, a4, hst⟩ := HS2.out.zero hlt
          have HS3 := Aside0.mk hst
          have him : i ≤ 9223372036854775806 := by omega
          clear hst
          go_wp2_with fail
          go_roundg (n - (i + 1))
          case measure => omega
          case rel => exact ⟨i + 1, hs.set i lysimeterlaw18_MergeSeries.wipe_hz, by go_num, hlt, Nat.le_refl _, HS3⟩
    · have hltz : ¬ (i : Int) < (n : Int) := by omega
      go_wp2_with fail
      go_end0
      exact ⟨rfl, HS.out.below⟩
end
section
open Go.Proofs.Ytjilnpbgclnecac.XH
theorem lysimeterlaw18_MergeSeries.wsum_snoc (n : Int) (x : List S78) {j : Nat} (h : j < x.length) : lysimeterlaw18_MergeSeries.wsum n (x.take (j + 1)) = wrap64 (wrap64 (lysimeterlaw18_MergeSeries.wsum n (x.take j) + 1) + (x[j].f1.length : Int)) := by
  unfold lysimeterlaw18_MergeSeries.wsum
  rw [List.take_succ_eq_append_getElem h, List.foldl_append]
  rfl
set_option maxHeartbeats 8000000 in
set_option maxRecDepth 100000 in
theorem lysimeterlaw18_MergeSeries.calls (k : Nat) (A0 : Option Addr) (c0 : Nat) (l0 : List (List S78)) (r : Bool) (w : World) (hr0 : Kd.C (Kd.slice 78 k78) w A0 l0.length l0) (hc0 : l0.length ≤ c0) (hr_ : r = true) (h : lysimeterlaw18_MergeSeries.f k l0 = some r) :
    Calls Try.prog 10 #[.slice A0 l0.length c0] w fun e w' => e = .returned (.bool r) ∧ Below w.heap.size w w' := by
  subst hr_
  unfold lysimeterlaw18_MergeSeries.f at h
  split at h
  case isFalse => cases h
  rename_i h0
  obtain ⟨hal, hl0⟩ := h0
  have HAL := Aside0.mk (fun W => lysimeterlaw18_alive.calls true W hal)
  have HC := Aside0.mk hr0
  have HC0 := Aside0.mk hc0
  clear hal hr0 hc0
  split at h
  · rename_i hbig
    have hb : (l0.length : Int) > 20 := by omega
    have hb2 : (20 : Int) < (l0.length : Int) := by omega
    have hd : decide ((l0.length : Int) > 20) = true := decide_eq_true hb
    clear h hbig
    go_enter Try.func10, Try.ntmps10
    go_wp2_with (go_at_call 35; (with_reducible refine (HAL.out _).mono ?_); rintro e W0 ⟨rfl, hb0⟩; have HB0 := Aside0.mk hb0; clear hb0)
    go_ret
    exact ⟨rfl, HB0.out⟩
  · rename_i hbig
    have hb : ¬ (l0.length : Int) > 20 := by omega
    have hb2 : ¬ (20 : Int) < (l0.length : Int) := by omega
    have hd : decide ((l0.length : Int) > 20) = false := decide_eq_false hb
    replace h := Option.bind_eq_some_iff.mp h
    obtain ⟨b, hlp, hg⟩ := h
    have HLP := Aside0.mk hlp
    have HG := Aside0.mk (show b = false → lysimeterlaw18_MergeSeries.Good k l0 from fun hb => by
      rw [hb, if_neg (by decide)] at hg
      split at hg
      · assumption
      · cases hg)
    have hl20 : l0.length ≤ 20 := by omega
    clear hlp hg hbig hl0
    go_enter Try.func10, Try.ntmps10
    go_upto_region 4 with (go_at_call 35; (with_reducible refine (HAL.out _).mono ?_); rintro e W0 ⟨rfl, hb0⟩; have HB0 := Aside0.mk hb0; clear hb0)
    go_wp2_with fail
    go_loopg [4, 5] l0.length (fun kx v4 v5 wr => ∃ (i : Nat) (n : Int), v5 = .int .i64 i ∧ v4 = .int .i64 n ∧ i ≤ l0.length ∧ l0.length - i ≤ kx ∧ Aside0 (lysimeterlaw18_MergeSeries.lp k (l0.drop i) n = some b) ∧ Aside0 (Below w.heap.size w wr))
    case atStart => exact ⟨0, 0, rfl, rfl, Nat.zero_le _, Nat.le_refl _, HLP, HB0⟩
    case round =>
      clear HLP HB0
      obtain ⟨i, n, rfl, rfl, hi, hkx, HLP, HB⟩ := hrel
      by_cases hlt : i < l0.length
      · have hltz : (i : Int) < (l0.length : Int) := by omega
        have hi0 : (0 : Int) ≤ (i : Int) := by omega
        obtain ⟨ad, A1, c1, hA, hx, hc1, hC1⟩ := at_L8 HC.out (i : Int) (by omega) hltz
        subst hA
        have hrd : rd_L8 l0 (i : Int) = l0[i] := by unfold rd_L8; simp [hlt]
        rw [hrd, Int.toNat_natCast] at hx
        rw [hrd] at hc1 hC1
        have hlp := HLP.out
        rw [List.drop_eq_getElem_cons hlt, lysimeterlaw18_MergeSeries.lp] at hlp
        obtain ⟨x, hxe⟩ : ∃ x, x = l0[i] := ⟨_, rfl⟩
        rw [← hxe] at hx hc1 hC1 hlp
        replace hlp := Option.bind_eq_some_iff.mp hlp
        obtain ⟨b1, hb1, hlp⟩ := hlp
        have z0 := pw_cell_below HB.out hx
        have HX := Aside0.mk hx
        have HC1 := Aside0.mk hC1
        have HLP1 := Aside0.mk hlp
        have HBIG := Aside0.mk (lysimeterlaw16_Big.calls k A1 c1 x b1 wr (Kd.C_below hC1 HB.out) hc1 hb1)
        have hxl : x.length ≤ 9223372036854775807 := hC1.2.1
        clear hx hc1 hC1 hrd hxe hlp hb1 HLP
        go_upto_region 9 with (go_at_call 44; (with_reducible refine HBIG.out.mono ?_); rintro e W1 ⟨rfl, hd1⟩; have HB1 := Aside0.mk (below_step HB.out hd1.below); clear hd1)
        clear z0 HBIG HB
        go_upto_block 2 with fail
        go_cut [4] (fun v4 wx => v4 = .int .i64 (lysimeterlaw18_MergeSeries.wsum n x) ∧ Aside0 (Below w.heap.size w wx))
        case first =>
          go_wp2_with fail
          go_loopg [4, 7] x.length (fun kx v4 v7 wr => ∃ j : Nat, v7 = .int .i64 j ∧ v4 = .int .i64 (lysimeterlaw18_MergeSeries.wsum n (x.take j)) ∧ j ≤ x.length ∧ x.length - j ≤ kx ∧ Aside0 (Below w.heap.size w wr))
          case atStart => exact ⟨0, rfl, rfl, Nat.zero_le _, Nat.le_refl _, HB1⟩
          case round =>
            clear HB1
            obtain ⟨j, rfl, rfl, hj, hkx1, HB⟩ := hrel
            have z0 := pw_cell_below HB.out HX.out
            by_cases hlj : j < x.length
            · have hljz : (j : Int) < (x.length : Int) := by omega
              have hj0 : (0 : Int) ≤ (j : Int) := by omega
              obtain ⟨ad1, LA, lc, SB, sd, hA1, _, y1, _, _, _, _⟩ := at_T78 HC1.out (j : Int) hj0 hljz
              subst hA1
              have hrd : rd_T78 x (j : Int) = x[j] := by unfold rd_T78; simp [hlj]
              rw [hrd, Int.toNat_natCast] at y1
              have y1' := pw_cell_below HB.out y1
              have HW := Aside0.mk (lysimeterlaw18_MergeSeries.wsum_snoc n x hlj)
              obtain ⟨s0, hs0⟩ : ∃ s0, s0 = lysimeterlaw18_MergeSeries.wsum n (x.take j) := ⟨_, rfl⟩
              obtain ⟨m0, hm0⟩ : ∃ m0, m0 = x[j].f1.length := ⟨_, rfl⟩
              rw [← hs0, ← hm0] at HW
              rw [← hs0]
              rw [← hm0] at y1'
              have hjm : j ≤ 9223372036854775806 := by omega
              clear hrd y1 hs0 hm0
              go_wp2_with fail
              go_roundg (x.length - (j + 1))
              case measure => omega
              case rel => exact ⟨j + 1, by go_num, by rw [HW.out], hlj, Nat.le_refl _, HB⟩
            · have hljz : ¬ (j : Int) < (x.length : Int) := by omega
              go_wp2_with fail
              go_meet
              case rel =>
                rw [List.take_of_length_le (show x.length ≤ j by omega)]
                exact ⟨rfl, HB⟩
        case rest =>
          obtain ⟨rfl, HB2⟩ := hcut
          clear HB1
          obtain ⟨s0, hs0⟩ : ∃ s0, s0 = lysimeterlaw18_MergeSeries.wsum n x := ⟨_, rfl⟩
          rw [← hs0] at HLP1 ⊢
          clear hs0
          cases b1 with
          | true =>
            go_wp2_with fail
            go_ret
            exact ⟨rfl, HB2.out⟩
          | false =>
            by_cases hs : s0 > 2000
            · have hs2 : (2000 : Int) < s0 := hs
              have hsd : decide (s0 > 2000) = true := decide_eq_true hs
              go_wp2_with fail
              go_ret
              exact ⟨rfl, HB2.out⟩
            · have hs2 : ¬ (2000 : Int) < s0 := hs
              have hsd : decide (s0 > 2000) = false := decide_eq_false hs
              have HLP2 := Aside0.mk (show lysimeterlaw18_MergeSeries.lp k (l0.drop (i + 1)) s0 = some b from by
                have := HLP1.out
                rw [if_neg (by decide), if_neg hs] at this
                exact this)
              have him : i ≤ 9223372036854775806 := by omega
              go_wp2_with fail
              go_roundg (l0.length - (i + 1))
              case measure => omega
              case rel => exact ⟨i + 1, s0, by go_num, rfl, hlt, Nat.le_refl _, HLP2, HB2⟩
      · have hltz : ¬ (i : Int) < (l0.length : Int) := by omega
        have hbf : b = false := by
          have := HLP.out
          rw [List.drop_of_length_le (show l0.length ≤ i by omega), lysimeterlaw18_MergeSeries.lp] at this
          exact (Option.some.inj this).symm
        obtain ⟨hfit, hsame⟩ := HG.out hbf
        obtain ⟨sr, hsr⟩ : ∃ sr, sr = merge_Series.ser l0.flatten := ⟨_, rfl⟩
        rw [← hsr] at hsame
        have M45 := Aside0.mk (fun (W : World) (hb : Below w.heap.size w W) => merge_Series.calls A0 c0 l0 sr W (Kd.C_below HC.out hb) HC0.out (by unfold merge_Series.f; rw [if_pos hfit, hsr]))
        have M47 := Aside0.mk (fun (W : World) (hb : Below w.heap.size w W) => lysimeterref16_MergeSeries.calls A0 c0 l0 sr W (Kd.C_below HC.out hb) HC0.out (by unfold lysimeterref16_MergeSeries.f; rw [if_pos hfit, hsr]))
        have M46 := Aside0.mk (fun (W : World) (A B : Option Addr) (a b : Nat) (h1 : Kd.C k78 W A sr.length sr) (h2 : sr.length ≤ a) (h3 : Kd.C k78 W B sr.length sr) (h4 : sr.length ≤ b) => lysimeterref11_SameSeries.calls k A a sr B b sr true W h1 h2 h3 h4 hsame)
        clear hbf hfit hsame hsr HLP HG
        go_upto_region 16 with (go_at_call 45; (with_reducible refine (M45.out _ HB.out).mono ?_); rintro e W1 ⟨v8, rfl, ho8, hb8⟩; have HO8 := Aside0.mk ho8; have HB8 := Aside0.mk hb8; clear ho8 hb8)
        obtain ⟨A8, c8, e8⟩ := Kd.R_slice HO8.out
        subst e8
        have HBW := Aside0.mk (below_step HB.out HB8.out)
        go_upto_region 17 with (first
          | (go_at_call 47; (with_reducible refine (M47.out _ HBW.out).mono ?_); rintro e W2 ⟨v9, rfl, ho9, hb9⟩; have HO9 := Aside0.mk ho9; have HB9 := Aside0.mk hb9; obtain ⟨A9, c9, e9⟩ := Kd.R_slice ho9; subst e9; clear ho9 hb9)
          | (go_at_call 46; (with_reducible refine (M46.out _ A8 A9 c8 c9 (Kd.C_below (Kd.R_reads' HO8.out).2.2 HB9.out) (Kd.R_reads' HO8.out).2.1 (Kd.R_reads' HO9.out).2.2 (Kd.R_reads' HO9.out).2.1).mono ?_); rintro e W3 ⟨rfl, hd3⟩; have HB3 := Aside0.mk (below_step HB9.out hd3.below); clear hd3))
        have HWI := Aside0.mk (lysimeterlaw18_MergeSeries.wipes _ W3 (.slice A8 sr.length c8) sr (Kd.R_below HO8.out HB3.out))
        have HSZ := Aside0.mk HB.out.size
        go_upto_region 18 with (go_at_call 48; (with_reducible refine HWI.out.mono ?_); rintro e W4 ⟨rfl, hb4⟩; have HB4 := Aside0.mk (Below.trans (below_step HBW.out HB3.out) (hb4.mono HSZ.out)); clear hb4)
        clear HO8 HB8 HO9 HB9 HB3 HWI HBW HB
        go_wp2_with (first
          | (go_at_call 45; (with_reducible refine (M45.out _ HB4.out).mono ?_); rintro e W5 ⟨v8, rfl, ho8, hb8⟩; have HO8 := Aside0.mk ho8; have HB5 := Aside0.mk (below_step HB4.out hb8); obtain ⟨A5, c5, e5⟩ := Kd.R_slice ho8; subst e5; clear ho8 hb8)
          | (go_at_call 47; (with_reducible refine (M47.out _ HB5.out).mono ?_); rintro e W6 ⟨v9, rfl, ho9, hb9⟩; have HO9 := Aside0.mk ho9; have HO8' := Aside0.mk (Kd.R_below HO8.out hb9); have HB6 := Aside0.mk (below_step HB5.out hb9); obtain ⟨A6, c6, e6⟩ := Kd.R_slice ho9; subst e6; clear ho9 hb9)
          | (go_at_call 46; (with_reducible refine (M46.out _ A5 A6 c5 c6 (Kd.R_reads' HO8'.out).2.2 (Kd.R_reads' HO8'.out).2.1 (Kd.R_reads' HO9.out).2.2 (Kd.R_reads' HO9.out).2.1).mono ?_); rintro e W7 ⟨rfl, hd7⟩; have HB7 := Aside0.mk (below_step HB6.out hd7.below); clear hd7))
        go_ret
        exact ⟨rfl, HB7.out⟩
end

/-- The one pure statement of lysimeterlaw18_MergeSeries. -/
def lysimeterlaw18_MergeSeries.Pure : Prop := ∀ (l0 : List (List (S78))), (l0.length * 24 ≤ reachBytes ∧ ∀ y0_ ∈ l0, (y0_.length * 48 ≤ reachBytes ∧ ∀ y1_ ∈ y0_, ((y1_.f0.length * 32 ≤ reachBytes ∧ ∀ y2_ ∈ y1_.f0, (y2_.f0.size ≤ reachBytes ∧ y2_.f1.size ≤ reachBytes)) ∧ (y1_.f1.length * 16 ≤ reachBytes ∧ ∀ y2_ ∈ y1_.f1, ((Lit.int .i64 y2_.f0).wf = true ∧ (Lit.int .i64 y2_.f1).wf = true))))) → ∃ k, lysimeterlaw18_MergeSeries.f k l0 = some true
theorem lysimeterlaw18_MergeSeries.walk (P : lysimeterlaw18_MergeSeries.Pure) (A0 : Option Addr) (c0 : Nat) (l0 : List (List (S78))) (w : World) (hr0 : Kd.C (Kd.slice 78 k78) w A0 l0.length l0) (hc0 : l0.length ≤ c0) (g0 : (l0.length * 24 ≤ reachBytes ∧ ∀ y0_ ∈ l0, (y0_.length * 48 ≤ reachBytes ∧ ∀ y1_ ∈ y0_, ((y1_.f0.length * 32 ≤ reachBytes ∧ ∀ y2_ ∈ y1_.f0, (y2_.f0.size ≤ reachBytes ∧ y2_.f1.size ≤ reachBytes)) ∧ (y1_.f1.length * 16 ≤ reachBytes ∧ ∀ y2_ ∈ y1_.f1, ((Lit.int .i64 y2_.f0).wf = true ∧ (Lit.int .i64 y2_.f1).wf = true)))))) :
    Calls Try.prog 10 #[.slice A0 l0.length c0] w fun e w' => e = .returned (.bool true) ∧ Below w.heap.size w w' := by
  obtain ⟨k, h⟩ := P l0 g0
  refine (lysimeterlaw18_MergeSeries.calls k _ _ l0 true w hr0 hc0 rfl h).mono ?_
  rintro e w' ⟨rfl, hd⟩
  exact ⟨rfl, hd⟩

end Go.Proofs.Ytjilnpbgclnecac.PMergeSeries
