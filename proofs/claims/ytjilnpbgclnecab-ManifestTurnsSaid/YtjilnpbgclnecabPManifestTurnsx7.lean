/- Written by a program of this session out of the translation: for Go functions Lean functions of the same answers, and the proof that the calls come to these answers. -/
import Derived.Test.YtjilnpbgclnecabPManifestTurnsx0
import Derived.Test.YtjilnpbgclnecabPManifestTurnsx3
import Derived.Test.YtjilnpbgclnecabPManifestTurnsx4
namespace Go.Proofs.Ytjilnpbgclnecab.PManifestTurns
open Go.RowKit Go.Proofs.YtjilnpbgclnecabW.PrintWords Go.Proofs.YtjilnpbgclnecabW.PrintLast Go.Proofs.YtjilnpbgclnecabW.PrintMore Go.Proofs.Ytjilnpbgclnecab.XB
attribute [local go_sem] sg_u8 sg_u16 sg_u32 sg_u64 mx_u8 mx_u16 mx_u32 mx_u64
attribute [local go_sem] max2_int min2_int max_two min_two max_three min_three max_four min_four   -- for this text's walks alone
set_option linter.unusedVariables false
set_option linter.unusedSimpArgs false

/-! ### manifest_Swap: function 33 -/
section
open Go.Proofs.Ytjilnpbgclnecab.XH
def manifest_Swap.tw : List Int → Bool
  | [] => false
  | x :: l => manifest_Swap.tw l || l.contains x
def manifest_Swap.left (ids : List Int) (b : List S52) : List S52 := b.filter (fun x => !(ids.contains x.f0))
theorem manifest_Swap.left_le (ids : List Int) (b : List S52) : (manifest_Swap.left ids b).length ≤ b.length := List.length_filter_le _ _
theorem manifest_Swap.left_snoc (ids : List Int) (b : List S52) (x : S52) : manifest_Swap.left ids (b ++ [x]) = manifest_Swap.left ids b ++ (if ids.contains x.f0 then [] else [x]) := by
  unfold manifest_Swap.left
  rw [List.filter_append]
  rw [List.filter_cons, List.filter_nil]
  cases h : ids.contains x.f0 <;> rfl
def manifest_Swap.f (k : Nat) (l0_0 : List (S52)) (a0_1 a0_2 a0_3 : Int) (l1 : List Int) (a2 a3 a4 : Int) : Option ((List (S52)) × Int × Int × Int × Int × Int) :=
  (manifest_Check.f k l0_0 a0_1 a0_2 a0_3).bind fun t =>
    if t = 0 then
      (if l1.all (fun x => (Lit.int .i64 x).wf) = true ∧ l0_0.all (fun x => (Lit.int .i64 x.f0).wf) = true ∧ l0_0.length < 4398046511104 then
        (if l1.length = 0 ∨ l0_0.length - (manifest_Swap.left l1 l0_0).length < SwapMap.dist l1.reverse then some ([], 0, 0, 0, 0, 6)
         else if manifest_Swap.tw l1.reverse = true then some ([], 0, 0, 0, 0, 1)
         else manifest_added.f k (manifest_Swap.left l1 l0_0) a0_1 a0_2 a0_3 a2 a3 a4)
       else none)
    else some ([], 0, 0, 0, 0, t)
theorem manifest_Swap.mono : ∀ a0 a1 a2 a3 a4 a5 a6 a7 k, LeO (manifest_Swap.f k a0 a1 a2 a3 a4 a5 a6 a7) (manifest_Swap.f (k + 1) a0 a1 a2 a3 a4 a5 a6 a7) := by
  intro a0 a1 a2 a3 a4 a5 a6 a7 k
  unfold manifest_Swap.f
  exact LeO.bind (manifest_Check.mono _ _ _ _ _) fun t => LeO.ite (LeO.ite (LeO.ite (LeO.refl _) (LeO.ite (LeO.refl _) (manifest_added.mono _ _ _ _ _ _ _ _))) (LeO.refl _)) (LeO.refl _)
set_option maxHeartbeats 8000000 in
set_option maxRecDepth 100000 in
theorem manifest_Swap.calls (k : Nat) (A0_0 : Option Addr) (c0_0 : Nat) (l0_0 : List (S52)) (a0_1 : Int) (a0_2 : Int) (a0_3 : Int) (A1 : Option Addr) (c1 : Nat) (l1 : List Int) (a2 : Int) (a3 : Int) (a4 : Int) (r1 : List (S52)) (r2 : Int) (r3 : Int) (r4 : Int) (r5 : Int) (r6 : Int) (w : World) (hr0_0 : Kd.C k52 w A0_0 l0_0.length l0_0) (hc0_0 : l0_0.length ≤ c0_0) (hr1 : Kd.C (Kd.int .i64) w A1 l1.length l1) (hc1 : l1.length ≤ c1) (h : manifest_Swap.f k l0_0 a0_1 a0_2 a0_3 l1 a2 a3 a4 = some (r1, r2, r3, r4, r5, r6)) :
    Calls Try.prog 33 #[.agg #[.slice A0_0 l0_0.length c0_0, .int .i64 a0_1, .int .i64 a0_2, .int .i64 a0_3], .slice A1 l1.length c1, .int .i64 a2, .int .i64 a3, .int .i64 a4] w fun e w' => ∃ v0_ : Value, e = .returned (.tuple #[.agg #[v0_, .int .i64 r2, .int .i64 r3, .int .i64 r4], .int .i64 r5, .int .i64 r6]) ∧ Kd.R k52 52 w' w.heap.size (fun _ => True) v0_ r1 ∧ Below w.heap.size w w' := by
  have hu50 := Try.underlying50
  have hu52 := Try.underlying52
  have hmm := @run_makeMap Try.prog
  have HR0_0 := Aside0.mk hr0_0
  have HC0_0 := Aside0.mk hc0_0
  have HR1 := Aside0.mk hr1
  have HC1 := Aside0.mk hc1
  clear hr0_0 hc0_0 hr1 hc1
  have HB := Aside0.mk (Below.refl w.heap.size w)
  unfold manifest_Swap.f at h
  obtain ⟨t, h1, h⟩ := Option.bind_eq_some_iff.mp h
  have A5 := Aside0.mk h1
  clear h1
  have H := Aside0.mk h
  clear h
  go_enter Try.func33, Try.ntmps33
  go_wp2_with (first
    | ((with_reducible refine gate_dst (N := 5) rfl ?_); refine box_event ?hg (N := 5) ?hd (cs := #[.slice A0_0 l0_0.length c0_0, .int .i64 a0_1, .int .i64 a0_2, .int .i64 a0_3]) (t := 50) ?hr ?_; (case hd => rfl); (case hg => rfl); (case hr => first | (go_simp; done) | (go_simp; rfl)); intro g1 hg1 w1 bk1 hb1; have GE1 := Aside0.mk (show w.heap.size ≤ g1 by omega); have BK1 := Aside0.mk bk1; clear HB; have HB := Aside0.mk hb1; clear bk1 hb1 hg1)
    | ((with_reducible refine gate_dst (N := 10) rfl ?_); refine box_event ?hg (N := 10) ?hd (cs := #[.slice none 0 0, .int .i64 0, .int .i64 0, .int .i64 0]) (t := 50) ?hr ?_; (case hd => rfl); (case hg => rfl); (case hr => first | (go_simp; done) | (go_simp; rfl)); intro g2 hg2 w2 bk2 hb2; have NB := Aside0.mk (show g1 ≠ g2 by rw [hg2]; exact Nat.ne_of_lt (blk_lt BK1.out)); have GE2 := Aside0.mk (show w.heap.size ≤ g2 by rw [hg2]; exact below_size HB.out); have n0_ := Aside0.mk (blk_below BK1.out hb2); have n1_ := Aside0.mk (below_step HB.out hb2); clear BK1 HB; have BK1 := n0_; have HB := n1_; clear n0_ n1_; have BK2 := Aside0.mk bk2; clear bk2 hb2 hg2; have hnb := NB.out; have hnc := NB.out.symm; have z0 : w2.cell? ⟨g1, 0, none⟩ = some (.slice A0_0 l0_0.length c0_0) := (blk_cell BK1.out 0).trans rfl; have z1 : w2.cell? ⟨g1, 1, none⟩ = some (.int .i64 a0_1) := (blk_cell BK1.out 1).trans rfl; have z2 : w2.cell? ⟨g1, 2, none⟩ = some (.int .i64 a0_2) := (blk_cell BK1.out 2).trans rfl; have z3 : w2.cell? ⟨g1, 3, none⟩ = some (.int .i64 a0_3) := (blk_cell BK1.out 3).trans rfl)
    | ((with_reducible refine gate_callee (f := 44) rfl ?_); refine goesL_ (some 23) rfl rfl Try.func44 (by kernel_rfl) rfl #[.agg #[.slice A0_0 l0_0.length c0_0, .int .i64 a0_1, .int .i64 a0_2, .int .i64 a0_3]] rfl (by (try simp only [List.map_toArray, List.map_cons, List.map_nil]); first | done | rfl) ?_; (with_reducible refine (manifest_Check.calls k _ _ l0_0 a0_1 a0_2 a0_3 t _ ?side1 ?side2 A5.out).mono ?_); (case side1 => exact Kd.C_below HR0_0.out HB.out); (case side2 => exact HC0_0.out); rintro e w3 ⟨rfl, hb3⟩; refine ⟨_, rfl, ?_⟩; have n0_ := Aside0.mk (blk_below BK1.out hb3); have n1_ := Aside0.mk (blk_below BK2.out hb3); have n2_ := Aside0.mk (below_step HB.out hb3); clear BK1 BK2 HB z0 z1 z2 z3; have BK1 := n0_; have BK2 := n1_; have HB := n2_; clear n0_ n1_ n2_ hb3; have y0 : w3.cell? ⟨g2, 0, none⟩ = some (.slice none 0 0) := (blk_cell BK2.out 0).trans rfl; have y1 : w3.cell? ⟨g2, 1, none⟩ = some (.int .i64 0) := (blk_cell BK2.out 1).trans rfl; have y2 : w3.cell? ⟨g2, 2, none⟩ = some (.int .i64 0) := (blk_cell BK2.out 2).trans rfl; have y3 : w3.cell? ⟨g2, 3, none⟩ = some (.int .i64 0) := (blk_cell BK2.out 3).trans rfl; have f0 := blk_frozen BK2.out 0; have f1 := blk_frozen BK2.out 1; have f2 := blk_frozen BK2.out 2; have f3 := blk_frozen BK2.out 3))
  · rename_i hne
    have H1 := H.out
    rw [if_neg (bne_iff_ne.mp hne)] at H1
    simp only [Option.some.injEq, Prod.mk.injEq] at H1
    obtain ⟨rfl, rfl, rfl, rfl, rfl, rfl⟩ := H1
    refine bodyPost_ret (results_ctt rfl _ _ g2 50 #[.slice none 0 0, .int .i64 0, .int .i64 0, .int .i64 0] (0, 0) _ rfl (by refine blk_put (cs := #[.slice none 0 0, .int .i64 0, .int .i64 0, .int .i64 0]) ?_ 3 _ rfl; refine blk_put (cs := #[.slice none 0 0, .int .i64 0, .int .i64 0, .int .i64 0]) ?_ 2 _ rfl; refine blk_put (cs := #[.slice none 0 0, .int .i64 0, .int .i64 0, .int .i64 0]) ?_ 1 _ rfl; refine blk_put (cs := #[.slice none 0 0, .int .i64 0, .int .i64 0, .int .i64 0]) ?_ 0 _ rfl; exact BK2.out) Try.underlying50 rfl (by kernel_rfl)) rfl ?_
    exact ⟨_, rfl, Kd.R_nil _ _ _ _ _, by repeat (first | (with_reducible first | exact HB.out | refine below_set ?_ GE2.out) | exact HB.out)⟩
  · have ht0 : (t != 0) = false := by assumption
    have ht : t = 0 := by simpa using ht0
    simp only [ht0]
    have H1 := H.out
    rw [if_pos ht] at H1
    by_cases hc : l1.all (fun x => (Lit.int .i64 x).wf) = true ∧ l0_0.all (fun x => (Lit.int .i64 x.f0).wf) = true ∧ l0_0.length < 4398046511104
    · rw [if_pos hc] at H1
      obtain ⟨hw1, hw2, hlen⟩ := hc
      have hown0 : (w3.alloc (.map #[] 0)).ownsMap Try.prog 3 (plainElem (H := Unit) Try.prog 3) w3.heap.size 0 (.map []) := World.ownsMap_made _ _ _ _
      have n0_ := Aside0.mk (blk_alloc BK1.out (.map #[] 0))
      have n1_ := Aside0.mk (blk_alloc BK2.out (.map #[] 0))
      have n2_ := Aside0.mk (below_alloc HB.out (.map #[] 0))
      have GE3 := Aside0.mk (below_size HB.out)
      have L1 := Aside0.mk (blk_lt BK1.out)
      have L2 := Aside0.mk (blk_lt BK2.out)
      clear BK1 BK2 HB y0 y1 y2 y3 f0 f1 f2 f3 H
      clear ht ht0
      have BK1 := n0_; have BK2 := n1_; have HB := n2_
      clear n0_ n1_ n2_
      have H := Aside0.mk H1
      clear H1
      generalize w3.alloc (.map #[] 0) = w4 at *
      generalize w3.heap.size = g3 at *
      have hlen1 : l1.length ≤ 9223372036854775807 := HR1.out.2.1
      go_loopg [15, 31] l1.length (fun kq v15 v31 w' => ∃ (i : Nat), i ≤ l1.length ∧ kq + i = l1.length ∧ v15 = .bool (manifest_Swap.tw (l1.take i).reverse) ∧ v31 = .int .i64 i ∧ Aside0 (w'.ownsMap Try.prog 3 (plainElem (H := Unit) Try.prog 3) g3 i (SwapMap.cmap (l1.take i).reverse)) ∧ Aside0 (w'.heap[g1]? = some (.cells #[.slice A0_0 l0_0.length c0_0, .int .i64 a0_1, .int .i64 a0_2, .int .i64 a0_3] 50 (0, 0))) ∧ Aside0 (w'.heap[g2]? = some (.cells #[.slice none 0 0, .int .i64 0, .int .i64 0, .int .i64 0] 50 (0, 0))) ∧ Aside0 (Below w.heap.size w w'))
      case atStart => exact ⟨0, Nat.zero_le _, rfl, rfl, rfl, ⟨hown0⟩, BK1, BK2, HB⟩
      case round =>
        clear hown0 BK1 BK2 HB
        obtain ⟨i, hi, hk, rfl, rfl, HO, BK1, BK2, HB⟩ := hrel
        by_cases hlt : i < l1.length
        · obtain ⟨k1, rfl⟩ : ∃ k1, gk = k1 + 1 := ⟨gk - 1, by omega⟩
          have hr : rd l1 (i : Int) = l1[i] := by
            unfold rd
            rw [Int.toNat_natCast, List.getD_eq_getElem?_getD, List.getElem?_eq_getElem hlt]; rfl
          obtain ⟨ad, e, hx⟩ := Kd.at_int (Kd.C_below HR1.out HB.out) (i : Int) (by omega) (by omega)
          rw [hr, Int.toNat_natCast] at hx
          have hwf : (Lit.int .i64 l1[i]).wf = true := (List.all_eq_true.mp hw1) _ (List.getElem_mem hlt)
          have hkey : keyOf Try.prog 3 (.int .i64 l1[i]) = some (.int .i64 l1[i]) := Maps.keyOf_int_mk Try.underlying3 hwf
          cases e
          have p0 : (0 ≤ (i : Int)) = True := eq_true (by omega)
          have q0 : ((i : Int) < (l1.length : Int)) = True := eq_true (by omega)
          have q1 : (i < l1.length) = True := eq_true hlt
          have zero3 : ∀ W : World, (zeroValue 3).run Try.prog W = .ok (.int .i64 0) W := fun W => by kernel_rfl
          go_wp2_with (first
            | (at_lookup; refine wpList_lookup_own_int _ rfl _ _ 91 rfl 3 3 .i64 (Maps.int_keyed Try.underlying3) Try.underlying91 Try.underlying3 (zero3 _) g3 i _ rfl HO.out _ _ rfl hkey ?_; intro c hat hwc)
            | (at_mapUpdate; refine wpList_mapUpdate_own _ rfl _ _ _ 91 rfl 3 3 (Maps.int_keyed Try.underlying3) Try.underlying91 _ g3 i _ rfl HO.out (by unfold maxLen; omega) _ _ _ rfl rfl hkey _ [] (plainElem_int Try.underlying3 (wrap64_wf _)) ?_; intro w5 hown5 hgrow5; obtain ⟨c2, hrun2, hat2, hwc2⟩ := hown5.lookup_int (Maps.int_keyed Try.underlying3) Try.underlying91 Try.underlying3 (zero3 _) hkey)
            | go_in)
          all_goals
            have hc2 : c = (((l1.take i).reverse.count l1[i] : Nat) : Int) := by
              rw [SwapMap.cmap_at] at hat
              injection hat with z
              injection z with _ z
              exact z.symm
            have hcl : (l1.take i).reverse.count l1[i] ≤ i := by
              have := List.count_le_length (a := l1[i]) (l := (l1.take i).reverse)
              rw [List.length_reverse, List.length_take] at this
              omega
            have ht1 : (l1.take (i + 1)).reverse = l1[i] :: (l1.take i).reverse := by
              rw [List.take_succ_eq_append_getElem hlt, List.reverse_append]; rfl
            have hO5 : w5.ownsMap Try.prog 3 (plainElem (H := Unit) Try.prog 3) g3 (i + 1) (SwapMap.cmap (l1.take (i + 1)).reverse) := by
              rw [ht1]
              show w5.ownsMap Try.prog 3 (plainElem (H := Unit) Try.prog 3) g3 (i + 1) ((SwapMap.cmap (l1.take i).reverse).put (.int .i64 l1[i]) (.lit (.int .i64 (((l1.take i).reverse.count l1[i] : Nat) + 1 : Int))))
              have hw : wrap64 (c + 1) = (((l1.take i).reverse.count l1[i] : Nat) + 1 : Int) := by rw [hc2]; unfold wrap64; omega
              rw [← hw]
              exact hown5
            have n0_ := Aside0.mk (blk_grown BK1.out hgrow5 (by have := L1.out; intro z; cases z; omega))
            have n1_ := Aside0.mk (blk_grown BK2.out hgrow5 (by have := L2.out; intro z; cases z; omega))
            have n2_ := Aside0.mk (HB.out.grown hgrow5 HB.out.size (fun j hj => by cases hj; exact GE3.out))
            go_roundg k1
          case measure => omega
          case measure => omega
          case rel => exact ⟨i + 1, by omega, by omega, by rw [ht1]; simp [*, manifest_Swap.tw], by first | rfl | (simp; done) | (congr 1), ⟨hO5⟩, n0_, n1_, n2_⟩
          case rel =>
            refine ⟨i + 1, by omega, by omega, ?_, by first | rfl | (simp; done) | (congr 1), ⟨hO5⟩, n0_, n1_, n2_⟩
            have hc3 : c2 = (((l1.take i).reverse.count l1[i] : Nat) + 1 : Int) := by
              rw [Maps.atKey_put_same (SwapMap.cmap_tidy _).isMap (SwapMap.isKey _)] at hat2
              injection hat2 with z
              injection z with _ z
              rw [← z, hc2]; unfold wrap64; omega
            have htw : manifest_Swap.tw (l1.take i).reverse = false := by
              cases hz : manifest_Swap.tw (l1.take i).reverse
              · rfl
              · exact absurd hz (by assumption)
            rw [ht1, manifest_Swap.tw, htw, Bool.false_or, hc3]
            congr 1
            have hcc : ((l1.take i).reverse.contains l1[i] = true) ↔ 0 < (l1.take i).reverse.count l1[i] := by
              rw [List.count_pos_iff, List.contains_iff_mem]
            cases hz : (l1.take i).reverse.contains l1[i]
            · exact decide_eq_false (by intro hq; have : 0 < (l1.take i).reverse.count l1[i] := by omega
                                        rw [← hcc, hz] at this; cases this)
            · exact decide_eq_true (by have := hcc.mp hz; omega)
        · obtain rfl : i = l1.length := by omega
          rw [List.take_length] at HO
          simp only [List.take_length]
          have hlt2 : (((l1.length : Nat) : Int) < (l1.length : Int)) = False := eq_false (by omega)
          have z0 : wr.cell? ⟨g1, 0, none⟩ = some (.slice A0_0 l0_0.length c0_0) := (blk_cell BK1.out 0).trans rfl
          go_wp2
          clear z0
          go_loopg [18, 19, 50] l0_0.length (fun kq v18 v19 v50 w' => ∃ (i : Nat), i ≤ l0_0.length ∧ kq + i = l0_0.length ∧ v50 = .int .i64 i ∧ v19 = .int .i64 ((i - (manifest_Swap.left l1 (l0_0.take i)).length : Nat) : Int) ∧ Aside0 (Kd.R k52 52 w' w.heap.size (fun k_ => w.heap.size ≤ k_) v18 (manifest_Swap.left l1 (l0_0.take i))) ∧ Aside0 (w'.ownsMap Try.prog 3 (plainElem (H := Unit) Try.prog 3) g3 l1.length (SwapMap.cmap l1.reverse)) ∧ Aside0 (w'.heap[g1]? = some (.cells #[.slice A0_0 l0_0.length c0_0, .int .i64 a0_1, .int .i64 a0_2, .int .i64 a0_3] 50 (0, 0))) ∧ Aside0 (w'.heap[g2]? = some (.cells #[.slice none 0 0, .int .i64 0, .int .i64 0, .int .i64 0] 50 (0, 0))) ∧ Aside0 (Below w.heap.size w w'))
          case atStart => exact ⟨0, Nat.zero_le _, rfl, rfl, rfl, ⟨Kd.R_nil _ _ _ _ _⟩, HO, BK1, BK2, HB⟩
          case round =>
            clear HO BK1 BK2 HB hi hk hlt hlt2
            obtain ⟨i, hi, hk, rfl, rfl, HR, HO, BK1, BK2, HB⟩ := hrel
            by_cases hlt : i < l0_0.length
            · obtain ⟨k1, rfl⟩ : ∃ k1, gk = k1 + 1 := ⟨gk - 1, by omega⟩
              have hr : rd_T52 l0_0 (i : Int) = l0_0[i] := by
                unfold rd_T52
                rw [Int.toNat_natCast, List.getD_eq_getElem?_getD, List.getElem?_eq_getElem hlt]; rfl
              obtain ⟨ad, e, hx0, hx1, hx2, hx3⟩ := at_T52 (Kd.C_below HR0_0.out HB.out) (i : Int) (by omega) (by omega)
              rw [hr, Int.toNat_natCast] at hx0 hx1 hx2 hx3
              cases e
              have hkey : keyOf Try.prog 3 (.int .i64 l0_0[i].f0) = some (.int .i64 l0_0[i].f0) := Maps.keyOf_int_mk Try.underlying3 ((List.all_eq_true.mp hw2) _ (List.getElem_mem hlt))
              have p0 : (0 ≤ (i : Int)) = True := eq_true (by omega)
              have q0 : ((i : Int) < (l0_0.length : Int)) = True := eq_true (by omega)
              have q1 : (i < l0_0.length) = True := eq_true hlt
              have zero3 : ∀ W : World, (zeroValue 3).run Try.prog W = .ok (.int .i64 0) W := fun W => by kernel_rfl
              have htk : l0_0.take (i + 1) = l0_0.take i ++ [l0_0[i]] := List.take_succ_eq_append_getElem hlt
              go_wp2_with (first
                | ((with_reducible refine gate_dst (N := 21) rfl ?_); refine box_event ?hg (N := 21) ?hd (cs := #[.int .i64 0, .int .i64 0, .int .i64 0, .int .i64 0]) (t := 52) ?hr ?_; (case hd => rfl); (case hg => rfl); (case hr => first | (go_simp; done) | (go_simp; rfl)); intro gb hgb w5 bk5 hb5; have GB := Aside0.mk hgb; clear hgb; have BK5 := Aside0.mk bk5; have HB5 := Aside0.mk hb5; clear bk5 hb5; have y0 : w5.cell? ⟨gb, 0, none⟩ = some (.int .i64 0) := (blk_cell BK5.out 0).trans rfl; have y1 : w5.cell? ⟨gb, 1, none⟩ = some (.int .i64 0) := (blk_cell BK5.out 1).trans rfl; have y2 : w5.cell? ⟨gb, 2, none⟩ = some (.int .i64 0) := (blk_cell BK5.out 2).trans rfl; have y3 : w5.cell? ⟨gb, 3, none⟩ = some (.int .i64 0) := (blk_cell BK5.out 3).trans rfl; have f0 := blk_frozen BK5.out 0; have f1 := blk_frozen BK5.out 1; have f2 := blk_frozen BK5.out 2; have f3 := blk_frozen BK5.out 3)
                | (at_lookup; refine wpl_world ?_; intro w6 hw6; have hgw : wr.heap.size ≤ gb := Nat.le_of_eq GB.out.symm; have hbb : Below wr.heap.size wr w6 := (by rw [hw6]; exact below_set (below_set (below_set (below_set HB5.out hgw) hgw) hgw) hgw); have bk6 : w6.heap[gb]? = some (.cells #[.int .i64 l0_0[i].f0, .int .i64 l0_0[i].f1, .int .i64 l0_0[i].f2, .int .i64 l0_0[i].f3] 52 (0, 0)) := (by rw [hw6]; exact blk_put (blk_put (blk_put (blk_put BK5.out 0 _ rfl) 1 _ rfl) 2 _ rfl) 3 _ rfl); have hge : w.heap.size ≤ gb := Nat.le_trans (below_size HB.out) hgw; have hb6 := below_step HB.out hbb; have hr6 := Kd.R_below HR.out hbb; have ho6 := map_below HO.out hbb; have b16 := blk_below BK1.out hbb; have b26 := blk_below BK2.out hbb; have yy0 : w6.cell? ⟨gb, 0, none⟩ = some (.int .i64 l0_0[i].f0) := (blk_cell bk6 0).trans rfl; have yy1 : w6.cell? ⟨gb, 1, none⟩ = some (.int .i64 l0_0[i].f1) := (blk_cell bk6 1).trans rfl; have yy2 : w6.cell? ⟨gb, 2, none⟩ = some (.int .i64 l0_0[i].f2) := (blk_cell bk6 2).trans rfl; have yy3 : w6.cell? ⟨gb, 3, none⟩ = some (.int .i64 l0_0[i].f3) := (blk_cell bk6 3).trans rfl; clear HR HO BK1 BK2 HB BK5 HB5 y0 y1 y2 y3 f0 f1 f2 f3 hbb hgw hw6; have HR := Aside0.mk hr6; have HO := Aside0.mk ho6; have BK1 := Aside0.mk b16; have BK2 := Aside0.mk b26; have HB := Aside0.mk hb6; have BK6 := Aside0.mk bk6; have GE := Aside0.mk hge; clear hr6 ho6 b16 b26 hb6 bk6 hge; refine wpList_lookup_own_int _ rfl _ _ 91 rfl 3 3 .i64 (Maps.int_keyed Try.underlying3) Try.underlying91 Try.underlying3 (zero3 _) g3 l1.length _ rfl HO.out _ _ rfl hkey ?_; intro c hat hwc; have HAT := Aside0.mk hat; clear hat)
                | ((with_reducible refine gate_builtin (b := .append) (xs := #[.tmp 61, .tmp 63]) rfl ?_); at_builtin; refine Kd.R_append k52 (w0 := w) w.heap.size rfl (.tmp 61) (.tmp 63) 48 52 (.agg #[(.int .i64 0), (.int .i64 0), (.int .i64 0), (.int .i64 0)]) 32 rfl Try.underlying48 info52 rfl (by decide) (by omega) u18 (manifest_Swap.left l1 (l0_0.take i)) l0_0[i] [.int .i64 l0_0[i].f0, .int .i64 l0_0[i].f1, .int .i64 l0_0[i].f2, .int .i64 l0_0[i].f3] (fun k_ => w.heap.size ≤ k_) (fun _ => False) rfl (by first | (go_simp; done) | (go_simp; rfl)) (k52_mkM _ _ _ _) (fun _ hk => hk.elim) (fun k_ hk => Nat.le_trans (below_size HB.out) hk) HR.out HB.out (below_size HB.out) (by have := manifest_Swap.left_le l1 (l0_0.take i); rw [List.length_take] at this; omega) ?_; intro v7 w7 ho7 hb7 hg7 _; have hm7 := HO.out.kept hg7 (map_ne_row HO.out HR.out); have b17 := blk_grown BK1.out hg7 (Kd.R_ne HR.out BK1.out (by decide)); have b27 := blk_grown BK2.out hg7 (Kd.R_ne HR.out BK2.out (by decide)); clear HR HO BK1 BK2 HB BK6 yy0 yy1 yy2 yy3; have HR := Aside0.mk ho7; have HO := Aside0.mk hm7; have BK1 := Aside0.mk b17; have BK2 := Aside0.mk b27; have HB := Aside0.mk hb7; clear ho7 hm7 b17 b27 hb7 hg7)
                | go_in)
              all_goals
                have hc2 : c = ((l1.reverse.count l0_0[i].f0 : Nat) : Int) := by
                  have hat := HAT.out
                  rw [SwapMap.cmap_at] at hat
                  injection hat with z
                  injection z with _ z
                  exact z.symm
                have hcc : (l1.contains l0_0[i].f0 = true) ↔ 0 < l1.reverse.count l0_0[i].f0 := by
                  rw [List.count_pos_iff, List.contains_iff_mem, List.mem_reverse]
              all_goals
                have hle := manifest_Swap.left_le l1 (l0_0.take i)
                rw [List.length_take, Nat.min_eq_left hi] at hle
              · have hin : l1.contains l0_0[i].f0 = true := hcc.mpr (by omega)
                have hl : manifest_Swap.left l1 (l0_0.take (i + 1)) = manifest_Swap.left l1 (l0_0.take i) := by rw [htk, manifest_Swap.left_snoc, if_pos hin, List.append_nil]
                go_roundg k1
                case measure => omega
                case rel =>
                  refine ⟨i + 1, by omega, by omega, rfl, ?_, ?_, HO, BK1, BK2, HB⟩
                  · rw [hl]; first | rfl | exact congrArg (Value.int .i64) (by (try rw [List.length_append, List.length_singleton]); omega)
                  · rw [hl]; exact HR
              · have hin : ¬ l1.contains l0_0[i].f0 = true := fun z => by have := hcc.mp z; omega
                have hl : manifest_Swap.left l1 (l0_0.take (i + 1)) = manifest_Swap.left l1 (l0_0.take i) ++ [l0_0[i]] := by rw [htk, manifest_Swap.left_snoc, if_neg hin]
                go_roundg k1
                case measure => omega
                case rel =>
                  refine ⟨i + 1, by omega, by omega, rfl, ?_, ?_, HO, BK1, BK2, HB⟩
                  · rw [hl]; first | rfl | exact congrArg (Value.int .i64) (by (try rw [List.length_append, List.length_singleton]); omega)
                  · rw [hl]; exact HR
            · obtain rfl : i = l0_0.length := by omega
              rw [List.take_length] at HR
              have hq : decide (((l0_0.length : Nat) : Int) < (l0_0.length : Int)) = false := decide_eq_false (by omega)
              have hle := manifest_Swap.left_le l1 l0_0
              have hml := fun ty => HO.out.len Try.underlying91 ty
              rw [SwapMap.cmap_size] at hml
              have z0 : wr.cell? ⟨g1, 0, none⟩ = some (.slice A0_0 l0_0.length c0_0) := (blk_cell BK1.out 0).trans rfl
              have y0 : wr.cell? ⟨g2, 0, none⟩ = some (.slice none 0 0) := (blk_cell BK2.out 0).trans rfl
              have y1 : wr.cell? ⟨g2, 1, none⟩ = some (.int .i64 0) := (blk_cell BK2.out 1).trans rfl
              have y2 : wr.cell? ⟨g2, 2, none⟩ = some (.int .i64 0) := (blk_cell BK2.out 2).trans rfl
              have y3 : wr.cell? ⟨g2, 3, none⟩ = some (.int .i64 0) := (blk_cell BK2.out 3).trans rfl
              have f0 := blk_frozen BK2.out 0
              have f1 := blk_frozen BK2.out 1
              have f2 := blk_frozen BK2.out 2
              have f3 := blk_frozen BK2.out 3
              by_cases e0 : l1.length = 0
              · have e0b : (((l1.length : Nat) : Int) == 0) = true := beq_iff_eq.mpr (by omega)
                have H1 := H.out
                rw [if_pos (Or.inl e0)] at H1
                clear e0
                simp only [Option.some.injEq, Prod.mk.injEq] at H1
                obtain ⟨rfl, rfl, rfl, rfl, rfl, rfl⟩ := H1
                go_wp2
                refine bodyPost_ret (results_ctt rfl _ _ g2 50 #[.slice none 0 0, .int .i64 0, .int .i64 0, .int .i64 0] (0, 0) _ rfl (by refine blk_put (cs := #[.slice none 0 0, .int .i64 0, .int .i64 0, .int .i64 0]) ?_ 3 _ rfl; refine blk_put (cs := #[.slice none 0 0, .int .i64 0, .int .i64 0, .int .i64 0]) ?_ 2 _ rfl; refine blk_put (cs := #[.slice none 0 0, .int .i64 0, .int .i64 0, .int .i64 0]) ?_ 1 _ rfl; refine blk_put (cs := #[.slice none 0 0, .int .i64 0, .int .i64 0, .int .i64 0]) ?_ 0 _ rfl; exact BK2.out) Try.underlying50 rfl (by kernel_rfl)) rfl ?_
                exact ⟨_, rfl, Kd.R_nil _ _ _ _ _, by repeat (first | (with_reducible first | exact HB.out | refine below_set ?_ GE2.out) | exact HB.out)⟩
              · have e0b : (((l1.length : Nat) : Int) == 0) = false := beq_eq_false_iff_ne.mpr (by omega)
                by_cases e1 : l0_0.length - (manifest_Swap.left l1 l0_0).length < SwapMap.dist l1.reverse
                · have e1b : decide (((l0_0.length - (manifest_Swap.left l1 l0_0).length : Nat) : Int) < ((SwapMap.dist l1.reverse : Nat) : Int)) = true := decide_eq_true (by omega)
                  have e1c : decide ((l0_0.length - (manifest_Swap.left l1 l0_0).length : Nat) < (SwapMap.dist l1.reverse : Nat)) = true := decide_eq_true e1
                  have H1 := H.out
                  rw [if_pos (Or.inr e1)] at H1
                  clear e0 e1
                  simp only [Option.some.injEq, Prod.mk.injEq] at H1
                  obtain ⟨rfl, rfl, rfl, rfl, rfl, rfl⟩ := H1
                  go_wp2
                  refine bodyPost_ret (results_ctt rfl _ _ g2 50 #[.slice none 0 0, .int .i64 0, .int .i64 0, .int .i64 0] (0, 0) _ rfl (by refine blk_put (cs := #[.slice none 0 0, .int .i64 0, .int .i64 0, .int .i64 0]) ?_ 3 _ rfl; refine blk_put (cs := #[.slice none 0 0, .int .i64 0, .int .i64 0, .int .i64 0]) ?_ 2 _ rfl; refine blk_put (cs := #[.slice none 0 0, .int .i64 0, .int .i64 0, .int .i64 0]) ?_ 1 _ rfl; refine blk_put (cs := #[.slice none 0 0, .int .i64 0, .int .i64 0, .int .i64 0]) ?_ 0 _ rfl; exact BK2.out) Try.underlying50 rfl (by kernel_rfl)) rfl ?_
                  exact ⟨_, rfl, Kd.R_nil _ _ _ _ _, by repeat (first | (with_reducible first | exact HB.out | refine below_set ?_ GE2.out) | exact HB.out)⟩
                · have e1b : decide (((l0_0.length - (manifest_Swap.left l1 l0_0).length : Nat) : Int) < ((SwapMap.dist l1.reverse : Nat) : Int)) = false := decide_eq_false (by omega)
                  have e1c : decide ((l0_0.length - (manifest_Swap.left l1 l0_0).length : Nat) < (SwapMap.dist l1.reverse : Nat)) = false := decide_eq_false e1
                  by_cases e2 : manifest_Swap.tw l1.reverse = true
                  · simp only [e2]
                    have H1 := H.out
                    rw [if_neg (fun z => z.elim e0 e1), if_pos e2] at H1
                    clear e0 e1
                    simp only [Option.some.injEq, Prod.mk.injEq] at H1
                    obtain ⟨rfl, rfl, rfl, rfl, rfl, rfl⟩ := H1
                    go_wp2
                    refine bodyPost_ret (results_ctt rfl _ _ g2 50 #[.slice none 0 0, .int .i64 0, .int .i64 0, .int .i64 0] (0, 0) _ rfl (by refine blk_put (cs := #[.slice none 0 0, .int .i64 0, .int .i64 0, .int .i64 0]) ?_ 3 _ rfl; refine blk_put (cs := #[.slice none 0 0, .int .i64 0, .int .i64 0, .int .i64 0]) ?_ 2 _ rfl; refine blk_put (cs := #[.slice none 0 0, .int .i64 0, .int .i64 0, .int .i64 0]) ?_ 1 _ rfl; refine blk_put (cs := #[.slice none 0 0, .int .i64 0, .int .i64 0, .int .i64 0]) ?_ 0 _ rfl; exact BK2.out) Try.underlying50 rfl (by kernel_rfl)) rfl ?_
                    exact ⟨_, rfl, Kd.R_nil _ _ _ _ _, by repeat (first | (with_reducible first | exact HB.out | refine below_set ?_ GE2.out) | exact HB.out)⟩
                  · have e2b : manifest_Swap.tw l1.reverse = false := by simpa using e2
                    simp only [e2b]
                    have H1 := H.out
                    rw [if_neg (fun z => z.elim e0 e1), if_neg e2] at H1
                    clear e0 e1 e2
                    have H2 := Aside0.mk H1
                    clear H1
                    have z1 : wr.cell? ⟨g1, 1, none⟩ = some (.int .i64 a0_1) := (blk_cell BK1.out 1).trans rfl
                    have z2 : wr.cell? ⟨g1, 2, none⟩ = some (.int .i64 a0_2) := (blk_cell BK1.out 2).trans rfl
                    have z3 : wr.cell? ⟨g1, 3, none⟩ = some (.int .i64 a0_3) := (blk_cell BK1.out 3).trans rfl
                    have zf := blk_frozen BK1.out 0
                    obtain ⟨Ao, co, eo, hco, hro⟩ := Kd.R_reads HR.out
                    subst eo
                    go_wp2_with (first
                      | ((with_reducible refine gate_callee (f := 61) rfl ?_); refine wpl_world ?_; intro w5 hw5; have hon : Only g1 wr w5 := (by rw [hw5]; exact (Only.refl _ _).set _ _); have hb5 : Below w.heap.size w w5 := (by rw [hw5]; exact below_set HB.out GE1.out); have hr5 := hon.R HR.out BK1.out (by decide); have b25 := hon.blk BK2.out NB.out.symm; clear HR BK2 HB HO hw5 y0 y1 y2 y3 f0 f1 f2 f3 z0 z1 z2 z3 zf hon hml; have BK2 := Aside0.mk b25; have HB := Aside0.mk hb5; have HR := Aside0.mk hr5; clear b25 hb5 hr5; refine goesL_ (some 86) rfl rfl Try.func61 (by kernel_rfl) rfl #[.agg #[.slice Ao (manifest_Swap.left l1 l0_0).length co, .int .i64 a0_1, .int .i64 a0_2, .int .i64 a0_3], .int .i64 a2, .int .i64 a3, .int .i64 a4] rfl (by (try simp only [List.map_toArray, List.map_cons, List.map_nil]); first | done | rfl) ?_; (with_reducible refine (manifest_added.calls k _ _ (manifest_Swap.left l1 l0_0) a0_1 a0_2 a0_3 a2 a3 a4 r1 r2 r3 r4 r5 r6 _ ?side1 ?side2 H2.out).mono ?_); (case side1 => obtain ⟨A_, c_, e_, _, hr_⟩ := Kd.R_reads HR.out; cases e_; exact hr_); (case side2 => exact hco); rintro e w6 ⟨v6, rfl, hv6, hb6⟩; refine ⟨_, rfl, ?_⟩; have n0_ := blk_below BK2.out hb6; have n1_ := below_step HB.out hb6; have n2_ := Kd.R_lower hv6 (below_size HB.out); clear BK2 HB HR; have BK2 := Aside0.mk n0_; have HB := Aside0.mk n1_; clear n0_ n1_ hb6; have HR := Aside0.mk n2_; clear n2_ hv6; obtain ⟨Ar, cr, er⟩ := Kd.R_slice HR.out; subst er; have y0 : w6.cell? ⟨g2, 0, none⟩ = some (.slice none 0 0) := (blk_cell BK2.out 0).trans rfl; have y1 : w6.cell? ⟨g2, 1, none⟩ = some (.int .i64 0) := (blk_cell BK2.out 1).trans rfl; have y2 : w6.cell? ⟨g2, 2, none⟩ = some (.int .i64 0) := (blk_cell BK2.out 2).trans rfl; have y3 : w6.cell? ⟨g2, 3, none⟩ = some (.int .i64 0) := (blk_cell BK2.out 3).trans rfl; have f0 := blk_frozen BK2.out 0; have f1 := blk_frozen BK2.out 1; have f2 := blk_frozen BK2.out 2; have f3 := blk_frozen BK2.out 3)
                      | go_in)
                    refine bodyPost_ret (results_ctt rfl _ _ g2 50 #[.slice Ar r1.length cr, .int .i64 r2, .int .i64 r3, .int .i64 r4] (0, 0) _ rfl (by refine blk_put (cs := #[.slice Ar r1.length cr, .int .i64 r2, .int .i64 r3, .int .i64 0]) ?_ 3 _ rfl; refine blk_put (cs := #[.slice Ar r1.length cr, .int .i64 r2, .int .i64 0, .int .i64 0]) ?_ 2 _ rfl; refine blk_put (cs := #[.slice Ar r1.length cr, .int .i64 0, .int .i64 0, .int .i64 0]) ?_ 1 _ rfl; refine blk_put (cs := #[.slice none 0 0, .int .i64 0, .int .i64 0, .int .i64 0]) ?_ 0 _ rfl; exact BK2.out) Try.underlying50 rfl (by kernel_rfl)) rfl ?_
                    have hon := ((((Only.refl g2 w6).set 0 (.slice Ar r1.length cr)).set 1 (.int .i64 r2)).set 2 (.int .i64 r3)).set 3 (.int .i64 r4)
                    exact ⟨_, rfl, Kd.R_mono (hon.R HR.out BK2.out (by decide)) (fun _ _ => trivial), below_set (below_set (below_set (below_set HB.out GE2.out) GE2.out) GE2.out) GE2.out⟩
    · rw [if_neg hc] at H1
      exact absurd H1 (by simp)
end


end Go.Proofs.Ytjilnpbgclnecab.PManifestTurns
