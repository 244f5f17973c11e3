/- A part of the proofs about the head: see the theorems' own lines. -/
import Derived.Test.YtcgocdhffcnleaaXHdS
import Derived.Test.YtcgocdhffcnleaaPHeadPlaysx5
import Derived.Lib.Overlaps
import Derived.Laws.CopyOwn
import Derived.Laws.IdiomCopy
import Derived.Lib.AppendZeros
import Derived.StillTailTactics
import Derived.Outline
namespace Go.Proofs.Ytcgocdhffcnleaa.PHead
open Go Go.RowKit Go.Proofs.YtcgocdhffcnleaaW.PrintWords Go.Proofs.YtcgocdhffcnleaaW.PrintLast Go.Proofs.YtcgocdhffcnleaaW.PrintMore Go.Proofs.Ytcgocdhffcnleaa.XB Go.Proofs.Ytcgocdhffcnleaa.PHeadPlays Go.Proofs.Ytcgocdhffcnleaa.XH
set_option linter.unusedVariables false
set_option linter.unusedSimpArgs false
/-! ### HeadLast, walked -/
section
set_option maxHeartbeats 8000000 in
set_option maxRecDepth 100000 in
theorem HeadLast.calls (A0 A1 : Option Addr) (c0 c1 : Nat) (l0 l1 : List Int) (w : World) (hC0 : Kd.C (Kd.int .i64) w A0 l0.length l0) (hC1 : Kd.C (Kd.int .i64) w A1 l1.length l1) :
    Calls Try.prog 5 #[.slice A0 l0.length c0, .slice A1 l1.length c1] w fun e w' => e = .returned (.bool true) ∧ Below w.heap.size w w' := by
  have HROW := Aside0.mk row_calls
  have HNUM := Aside0.mk num_calls
  have HAL := Aside0.mk head_alive.calls
  have HT0 := Aside0.mk hC0
  have HV0 := Aside0.mk hC1
  obtain ⟨n, hn⟩ : ∃ n, n = l0.length := ⟨_, rfl⟩
  obtain ⟨k, hk⟩ : ∃ k, k = l1.length := ⟨_, rfl⟩
  have hn9 : n ≤ 9223372036854775807 := by have := hC0.2.1; omega
  rw [← hn] at HT0 ⊢
  rw [← hk] at HV0 ⊢
  clear hC0 hC1 hn hk
  go_enter Try.func5, Try.ntmps5
  go_upto_region 2 with (go_at_call 21; (with_reducible refine (HAL.out _).mono ?_); rintro e W0 ⟨rfl, hb0⟩; have HB0 := Aside0.mk hb0; clear hb0)
  by_cases h1 : (n : Int) > 100
  · go_wp2
    go_ret
    exact ⟨rfl, HB0.out⟩
  by_cases h2 : (k : Int) < (n : Int)
  · go_wp2
    go_ret
    exact ⟨rfl, HB0.out⟩
  have hnk : n ≤ k := by omega
  have hn1 : n ≤ 100 := by omega
  obtain ⟨T, hT⟩ : ∃ T : Nat → Int, T = fun i : Nat => rd l0 (i : Int) := ⟨_, rfl⟩
  obtain ⟨V, hV⟩ : ∃ V : Nat → Int, V = fun i : Nat => rd l1 (i : Int) := ⟨_, rfl⟩
  have HRT := Aside0.mk (show ∀ W, Below w.heap.size w W → ∀ i : Nat, i < n → ∃ ad, A0 = some ad ∧ W.cell? (ad.add i) = some (.int .i64 (T i)) from fun W hW i hi => by
    obtain ⟨ad, h3, h4⟩ := Kd.at_int (Kd.C_below HT0.out hW) (i : Int) (by omega) (by omega)
    rw [Int.toNat_natCast] at h4
    rw [hT]
    exact ⟨ad, h3, h4⟩)
  have HRV := Aside0.mk (show ∀ W, Below w.heap.size w W → ∀ i : Nat, i < k → ∃ ad, A1 = some ad ∧ W.cell? (ad.add i) = some (.int .i64 (V i)) from fun W hW i hi => by
    obtain ⟨ad, h3, h4⟩ := Kd.at_int (Kd.C_below HV0.out hW) (i : Int) (by omega) (by omega)
    rw [Int.toNat_natCast] at h4
    rw [hV]
    exact ⟨ad, h3, h4⟩)
  clear hT hV HT0 HV0
  have HNEW := Aside0.mk (head_New.calls 9007199254740992)
  rw [show min (max (0 : Int) 9007199254740992) 9007199254740992 = 9007199254740992 by decide] at HNEW
  go_upto_region 5 with (go_at_call 22; (with_reducible refine (HNEW.out _).mono ?_); rintro e W1 ⟨hb, mb, rfl, hh1, hb1⟩; have HH1 := Aside0.mk hh1; have HB1 := Aside0.mk (below_step HB0.out hb1); clear hh1 hb1)
  go_wp2
  go_loopg [7] n (fun kx v7 wr => ∃ (i : Nat) (S1 : List Hd.Ent), v7 = .int .i64 i ∧ i ≤ n ∧ n - i ≤ kx ∧ Aside0 (Hd.HR W0.heap.size hb mb 9007199254740992 S1 wr) ∧ Aside0 (Hd.abs S1 = Hd.Lx T V i) ∧ Aside0 (Below w.heap.size w wr) ∧ Aside0 (∀ j, j < i → -1000 ≤ T j ∧ T j ≤ 1000))
  case atStart => exact ⟨0, [], rfl, Nat.zero_le _, Nat.le_refl _, HH1, ⟨rfl⟩, HB1, ⟨fun j hj => by omega⟩⟩
  case round =>
    clear HH1 HB1
    obtain ⟨i, S1, rfl, hi, hkx, HH1, HA1, HB1, HT1⟩ := hrel
    by_cases hlt : i < n
    · have hltz : (i : Int) < (n : Int) := by omega
      have hltk : (i : Int) < (k : Int) := by omega
      have hi0 : (0 : Int) ≤ (i : Int) := by omega
      obtain ⟨ad0, e0, x0⟩ := HRT.out wr HB1.out i hlt
      obtain ⟨ad1, e1, x1⟩ := HRV.out wr HB1.out i (by omega)
      subst e0
      subst e1
      by_cases h3 : T i < -1000
      · go_wp2
        go_ret
        exact ⟨rfl, HB1.out⟩
      by_cases h4 : T i > 1000
      · go_wp2
        go_ret
        exact ⟨rfl, HB1.out⟩
      have HT2 := Aside0.mk (show ∀ j, j ≤ i → -1000 ≤ T j ∧ T j ≤ 1000 from fun j hj => by
        by_cases he : j = i
        · rw [he]; omega
        · exact HT1.out j (by omega))
      have HW := Aside0.mk (Hd.writeLx T V i HT2.out)
      have HHD := Aside0.mk (HH1.out.below (below_drew1 (Below.refl _ wr)))
      go_upto_region 10 with fail
      go_region_with (first
        | (go_at_call 24; (with_reducible refine (HROW.out _ _ _ _).mono ?_); rintro e W2 ⟨A, c, rfl, hr, hb⟩; have HR2 := Aside0.mk hr; have HB2 := Aside0.mk hb; clear hr hb)
        | (go_at_call 23; (refine (head_Write.one HHD.out HB2.out HR2.out HA1.out (by have := Hd.cnt_Lx T V i; omega) HW.out).mono ?_); rintro e W4 ⟨rfl, S2, hh2, he2, hf2⟩; have HA2 := Aside0.mk he2; have HH2 := Aside0.mk hh2; have HB4 := Aside0.mk (Below.trans (below_drew1 HB1.out) (Below.mono hf2 HB0.out.size)); clear hh2 hf2 he2))
      all_goals (
        go_wp2_with (go_at_call 25; (with_reducible refine (HNUM.out _ _).mono ?_); rintro e W5 ⟨rfl, hb5⟩; have HB5 := Aside0.mk hb5; clear hb5)
        go_roundg (n - (i + 1))
        case measure => omega
        case rel => exact ⟨i + 1, S2, by go_num, hlt, Nat.le_refl _, ⟨HH2.out.below HB5.out⟩, HA2, ⟨below_step HB4.out HB5.out⟩, ⟨fun j hj => HT2.out j (by omega)⟩⟩)
    · have hin : n = i := by omega
      subst hin
      clear hkx hlt hi
      go_upto_region 13 with fail
      go_upto_region 14 with (go_at_call 26; (refine (head_Samples.lx (HH1.out.below (below_alloc (Below.refl _ _) _)) hn1 HA1.out wr.heap.size (blk_new _ _)).mono ?_); rintro e W2 ⟨As, cs, rfl, hcs, hb2⟩; have HXS := Aside0.mk hcs; have HB2 := Aside0.mk (below_step (below_step HB1.out (below_alloc (Below.refl _ _) _)) hb2); clear hcs hb2)
      have HL := Aside0.mk (Hd.xs_len T V n)
      have HWANT := Aside0.mk (Hd.xs_want T V n)
      have HHAS := Aside0.mk (Hd.xs_has T V n)
      have HSTEP := Aside0.mk (Hd.xs_step T V n)
      obtain ⟨xl, hxl⟩ : ∃ xl, xl = Hd.xs T V n := ⟨_, rfl⟩
      rw [← hxl] at HXS HL HWANT HHAS HSTEP ⊢
      obtain ⟨m, hm⟩ : ∃ m, m = xl.length := ⟨_, rfl⟩
      have HXR := Aside0.mk (show ∀ W', Below W2.heap.size W2 W' → ∀ (j : Nat) (x : S44), xl[j]? = some x → ∃ ad, As = some ad ∧ W'.cell? (ad.add (j * 2)) = some (.int .i64 x.f0) ∧ W'.cell? ⟨(ad.add (j * 2)).block, (ad.add (j * 2)).off + 1, none⟩ = some (.int .i64 x.f1) from fun W' hW j x hj => by
        have hjl := (List.getElem?_eq_some_iff.1 hj).1
        obtain ⟨ad, h3, h4, h5⟩ := at_T44 (Kd.C_below HXS.out hW) (j : Int) (by omega) (by omega)
        have hrd : rd_T44 xl (j : Int) = x := by unfold rd_T44; rw [Int.toNat_natCast, List.getD_eq_getElem?_getD, hj]; rfl
        rw [hrd, Int.toNat_natCast] at h4 h5
        exact ⟨ad, h3, h4, h5⟩)
      have hm1 : m ≤ 100 := by rw [hm]; exact Nat.le_trans HL.out hn1
      have HM := Aside0.mk hm
      rw [← hm]
      clear hm hxl HXS HL HROW HNUM HAL HNEW HH1 HA1 HT1 HB1
      go_wp2
      go_loopg [10] m (fun kx v10 wr => ∃ j : Nat, v10 = .int .i64 j ∧ j ≤ m ∧ m - j ≤ kx ∧ Aside0 (Below W2.heap.size W2 wr))
      case atStart => exact ⟨0, rfl, Nat.zero_le _, Nat.le_refl _, ⟨Below.refl _ _⟩⟩
      case round =>
        obtain ⟨j, rfl, hj, hjx, HB3⟩ := hrel
        by_cases hlt : j < m
        · have hltz : (j : Int) < (m : Int) := by omega
          obtain ⟨x, hx⟩ : ∃ x, xl[j]? = some x := ⟨_, List.getElem?_eq_getElem (by rw [← HM.out]; exact hlt)⟩
          have HX := Aside0.mk hx
          clear hx
          go_wp2
          go_loopg [11, 12, 13] n (fun kx v11 v12 v13 wr => ∃ i : Nat, v13 = .int .i64 i ∧ v11 = .int .i64 (Hd.want T V x.f0 i).1 ∧ v12 = .bool (Hd.want T V x.f0 i).2 ∧ i ≤ n ∧ n - i ≤ kx ∧ Aside0 (Below W2.heap.size W2 wr))
          case atStart => exact ⟨0, rfl, rfl, rfl, Nat.zero_le _, Nat.le_refl _, HB3⟩
          case round =>
            clear HB3
            obtain ⟨i, rfl, rfl, rfl, hi, hix, HB3⟩ := hrel
            by_cases hlt2 : i < n
            · have hlt2z : (i : Int) < (n : Int) := by omega
              have hltk : (i : Int) < (k : Int) := by omega
              have hi0 : (0 : Int) ≤ (i : Int) := by omega
              have hj0 : (0 : Int) ≤ (j : Int) := by omega
              have hin : i ≤ 9223372036854775806 := by omega
              obtain ⟨ad0, e0, x0⟩ := HRT.out wr (below_step HB2.out HB3.out) i hlt2
              obtain ⟨ad1, e1, x1⟩ := HRV.out wr (below_step HB2.out HB3.out) i (by omega)
              obtain ⟨ad2, e2, y0, _⟩ := HXR.out wr HB3.out j x HX.out
              subst e0
              subst e1
              subst e2
              by_cases h3 : T i = x.f0
              · have HW := Aside0.mk (show Hd.want T V x.f0 (i + 1) = (V i, true) from if_pos h3)
                go_upto_region 22 with fail
                go_quiet (fail)
                go_wp2
                go_roundg (n - (i + 1))
                case measure => omega
                case rel => exact ⟨i + 1, by go_num, by rw [HW.out], by rw [HW.out], hlt2, Nat.le_refl _, ⟨pw_below_drewN HB3.out _⟩⟩
              · have HW := Aside0.mk (show Hd.want T V x.f0 (i + 1) = Hd.want T V x.f0 i from if_neg h3)
                go_upto_region 22 with fail
                go_quiet (fail)
                go_wp2
                go_roundg (n - (i + 1))
                case measure => omega
                case rel => exact ⟨i + 1, by go_num, by rw [HW.out], by rw [HW.out], hlt2, Nat.le_refl _, ⟨pw_below_drewN HB3.out _⟩⟩
            · have hin : n = i := by omega
              subst hin
              have hw := HWANT.out x (List.mem_of_getElem? HX.out)
              rw [hw]
              clear hw
              dsimp only
              have hj0 : (0 : Int) ≤ (j : Int) := by omega
              have hjm : j ≤ 9223372036854775806 := by omega
              obtain ⟨ad2, e2, y0, y1⟩ := HXR.out wr HB3.out j x HX.out
              subst e2
              by_cases hjz : j = 0
              · obtain ⟨z, hz⟩ : ∃ z : Int, z = (j : Int) := ⟨_, rfl⟩
                have hz0 : (0 : Int) ≤ z := by omega
                have hzm : z < (m : Int) := by omega
                have hzp : ¬ 0 < z := by omega
                have hzp2 : decide (0 < z) = false := decide_eq_false hzp
                have y0' : wr.cell? (ad2.add (z.toNat * 2)) = some (.int .i64 x.f0) := by rw [hz, Int.toNat_natCast]; exact y0
                have y1' : wr.cell? ⟨(ad2.add (z.toNat * 2)).block, (ad2.add (z.toNat * 2)).off + 1, none⟩ = some (.int .i64 x.f1) := by rw [hz, Int.toNat_natCast]; exact y1
                rw [← hz]
                have HZ := Aside0.mk hz
                clear hz y0 y1 hj0 hltz
                go_upto_region 25 with fail
                refine start_ (n := 29) (S := fun w' => w'.cell? ⟨(ad2.add (z.toNat * 2)).block, (ad2.add (z.toNat * 2)).off + 1, none⟩ = some (.int .i64 x.f1)) (ds := []) #[false, false, false, false, false, false, false, false, false, false, false, false, false, false, false, false, false, false, false, false, false, false, false, false, false, false, false, false, false] (by kernel_rfl) rfl rfl y1' (fun hHeld => ?_)
                refine pure_ (i := 0) (N := (some 97)) (v := ?_) (a' := ?_) #[true, false, false, false, false, false, false, false, false, false, false, false, false, false, false, false, false, false, false, false, false, false, false, false, false, false, false, false, false] rfl rfl (by kernel_rfl) (fun _ _ _ h => h) (Or.inl ⟨by rfl, ?_⟩) ?_ ?_
                rotate_left
                · intro w'
                  go_simp
                  with_reducible rfl
                rotate_left
                · simp only [Act.put, List.setIfInBounds_toArray, List.set_cons_zero, List.set_cons_succ, i64_w, i32_w]
                  rfl
                refine pure_ (i := 1) (N := (some 98)) (v := ?_) (a' := ?_) #[true, true, false, false, false, false, false, false, false, false, false, false, false, false, false, false, false, false, false, false, false, false, false, false, false, false, false, false, false] rfl rfl (by kernel_rfl) (fun _ _ _ h => h) (Or.inl ⟨by rfl, ?_⟩) ?_ ?_
                rotate_left
                · intro w'
                  go_simp
                  with_reducible rfl
                rotate_left
                · simp only [Act.put, List.setIfInBounds_toArray, List.set_cons_zero, List.set_cons_succ, i64_w, i32_w]
                  rfl
                refine pure_ (i := 2) (N := (some 99)) (v := ?_) (a' := ?_) #[true, true, true, false, false, false, false, false, false, false, false, false, false, false, false, false, false, false, false, false, false, false, false, false, false, false, false, false, false] rfl rfl (by kernel_rfl) (fun _ _ _ h => h) (Or.inl ⟨by rfl, ?_⟩) ?_ ?_
                rotate_left
                · intro w'
                  go_simp
                  with_reducible rfl
                rotate_left
                · simp only [Act.put, List.setIfInBounds_toArray, List.set_cons_zero, List.set_cons_succ, i64_w, i32_w]
                  rfl
                refine pure_ (i := 3) (N := (some 100)) (v := ?_) (a' := ?_) #[true, true, true, true, false, false, false, false, false, false, false, false, false, false, false, false, false, false, false, false, false, false, false, false, false, false, false, false, false] rfl rfl (by kernel_rfl) (fun _ _ _ h => h) (Or.inl ⟨by rfl, ?_⟩) ?_ ?_
                rotate_left
                · intro w'
                  go_simp
                  with_reducible rfl
                rotate_left
                · simp only [Act.put, List.setIfInBounds_toArray, List.set_cons_zero, List.set_cons_succ, i64_w, i32_w]
                  rfl
                refine pure_ (i := 4) (N := (some 101)) (v := ?_) (a' := ?_) #[true, true, true, true, true, false, false, false, false, false, false, false, false, false, false, false, false, false, false, false, false, false, false, false, false, false, false, false, false] rfl rfl (by kernel_rfl) (fun _ _ _ h => h) (Or.inl ⟨by rfl, ?_⟩) ?_ ?_
                rotate_left
                · intro w'
                  go_simp
                  with_reducible rfl
                rotate_left
                · simp only [Act.put, List.setIfInBounds_toArray, List.set_cons_zero, List.set_cons_succ, i64_w, i32_w]
                  rfl
                refine pure_ (i := 5) (N := (some 102)) (v := ?_) (a' := ?_) #[true, true, true, true, true, true, false, false, false, false, false, false, false, false, false, false, false, false, false, false, false, false, false, false, false, false, false, false, false] rfl rfl (by kernel_rfl) (fun _ _ _ h => h) (Or.inl ⟨by rfl, ?_⟩) ?_ ?_
                rotate_left
                · intro w'
                  go_simp
                  with_reducible rfl
                rotate_left
                · simp only [Act.put, List.setIfInBounds_toArray, List.set_cons_zero, List.set_cons_succ, i64_w, i32_w]
                  rfl
                refine pure_ (i := 6) (N := (some 103)) (v := ?_) (a' := ?_) #[true, true, true, true, true, true, true, false, false, false, false, false, false, false, false, false, false, false, false, false, false, false, false, false, false, false, false, false, false] rfl rfl (by kernel_rfl) (fun _ _ _ h => h) (Or.inl ⟨by rfl, ?_⟩) ?_ ?_
                rotate_left
                · intro w'
                  go_simp
                  with_reducible rfl
                rotate_left
                · simp only [Act.put, List.setIfInBounds_toArray, List.set_cons_zero, List.set_cons_succ, i64_w, i32_w]
                  rfl
                refine pure_ (i := 7) (N := (some 104)) (v := ?_) (a' := ?_) #[true, true, true, true, true, true, true, true, false, false, false, false, false, false, false, false, false, false, false, false, false, false, false, false, false, false, false, false, false] rfl rfl (by kernel_rfl) (fun _ _ _ h => h) (Or.inl ⟨by rfl, ?_⟩) ?_ ?_
                rotate_left
                · intro w'
                  go_simp
                  with_reducible rfl
                rotate_left
                · simp only [Act.put, List.setIfInBounds_toArray, List.set_cons_zero, List.set_cons_succ, i64_w, i32_w]
                  rfl
                refine take_ (i := 8) (N := (some 105)) (v := ?_) (a' := ?_) #[true, true, true, true, true, true, true, true, true, false, false, false, false, false, false, false, false, false, false, false, false, false, false, false, false, false, false, false, false] rfl rfl (by kernel_rfl) (fun _ _ _ h => h) (Or.inl ⟨by rfl, ?_⟩) hHeld ?_ ?_
                rotate_left
                · rintro w' s0
                  go_simp
                  with_reducible rfl
                rotate_left
                · simp only [Act.put, List.setIfInBounds_toArray, List.set_cons_zero, List.set_cons_succ, i64_w, i32_w]
                  rfl
                refine pure_ (i := 9) (N := (some 106)) (v := ?_) (a' := ?_) #[true, true, true, true, true, true, true, true, true, true, false, false, false, false, false, false, false, false, false, false, false, false, false, false, false, false, false, false, false] rfl rfl (by kernel_rfl) (fun _ _ _ h => h) (Or.inl ⟨by rfl, ?_⟩) ?_ ?_
                rotate_left
                · intro w'
                  go_simp
                  with_reducible rfl
                rotate_left
                · simp only [Act.put, List.setIfInBounds_toArray, List.set_cons_zero, List.set_cons_succ, i64_w, i32_w]
                  rfl
                refine pure_ (i := 10) (N := (some 107)) (v := ?_) (a' := ?_) #[true, true, true, true, true, true, true, true, true, true, true, false, false, false, false, false, false, false, false, false, false, false, false, false, false, false, false, false, false] rfl rfl (by kernel_rfl) (fun _ _ _ h => h) (Or.inl ⟨by rfl, ?_⟩) ?_ ?_
                rotate_left
                · intro w'
                  go_simp
                  with_reducible rfl
                rotate_left
                · simp only [Act.put, List.setIfInBounds_toArray, List.set_cons_zero, List.set_cons_succ, i64_w, i32_w]
                  rfl
                refine pure_ (i := 11) (N := (some 108)) (v := ?_) (a' := ?_) #[true, true, true, true, true, true, true, true, true, true, true, true, false, false, false, false, false, false, false, false, false, false, false, false, false, false, false, false, false] rfl rfl (by kernel_rfl) (fun _ _ _ h => h) (Or.inl ⟨by rfl, ?_⟩) ?_ ?_
                rotate_left
                · intro w'
                  go_simp
                  with_reducible rfl
                rotate_left
                · simp only [Act.put, List.setIfInBounds_toArray, List.set_cons_zero, List.set_cons_succ, i64_w, i32_w]
                  rfl
                refine pure_ (i := 12) (N := (some 109)) (v := ?_) (a' := ?_) #[true, true, true, true, true, true, true, true, true, true, true, true, true, false, false, false, false, false, false, false, false, false, false, false, false, false, false, false, false] rfl rfl (by kernel_rfl) (fun _ _ _ h => h) (Or.inl ⟨by rfl, ?_⟩) ?_ ?_
                rotate_left
                · intro w'
                  go_simp
                  with_reducible rfl
                rotate_left
                · simp only [Act.put, List.setIfInBounds_toArray, List.set_cons_zero, List.set_cons_succ, i64_w, i32_w]
                  rfl
                refine pure_ (i := 13) (N := (some 110)) (v := ?_) (a' := ?_) #[true, true, true, true, true, true, true, true, true, true, true, true, true, true, false, false, false, false, false, false, false, false, false, false, false, false, false, false, false] rfl rfl (by kernel_rfl) (fun _ _ _ h => h) (Or.inl ⟨by rfl, ?_⟩) ?_ ?_
                rotate_left
                · intro w'
                  go_simp
                  with_reducible rfl
                rotate_left
                · simp only [Act.put, List.setIfInBounds_toArray, List.set_cons_zero, List.set_cons_succ, i64_w, i32_w]
                  rfl
                refine pure_ (i := 14) (N := (some 111)) (v := ?_) (a' := ?_) #[true, true, true, true, true, true, true, true, true, true, true, true, true, true, true, false, false, false, false, false, false, false, false, false, false, false, false, false, false] rfl rfl (by kernel_rfl) (fun _ _ _ h => h) (Or.inl ⟨by rfl, ?_⟩) ?_ ?_
                rotate_left
                · intro w'
                  go_simp
                  with_reducible rfl
                rotate_left
                · simp only [Act.put, List.setIfInBounds_toArray, List.set_cons_zero, List.set_cons_succ, i64_w, i32_w]
                  rfl
                refine pure_ (i := 15) (N := (some 112)) (v := _) (a' := ?_) #[true, true, true, true, true, true, true, true, true, true, true, true, true, true, true, true, false, false, false, false, false, false, false, false, false, false, false, false, false] rfl rfl (by kernel_rfl) (fun _ _ _ h => h) (Or.inr ⟨by rfl, rfl⟩) ?_ ?_
                rotate_left
                · simp only [Act.put, List.setIfInBounds_toArray, List.set_cons_zero, List.set_cons_succ, i64_w, i32_w]
                  rfl
                refine pure_ (i := 16) (N := (some 113)) (v := _) (a' := ?_) #[true, true, true, true, true, true, true, true, true, true, true, true, true, true, true, true, true, false, false, false, false, false, false, false, false, false, false, false, false] rfl rfl (by kernel_rfl) (fun _ _ _ h => h) (Or.inr ⟨by rfl, rfl⟩) ?_ ?_
                rotate_left
                · simp only [Act.put, List.setIfInBounds_toArray, List.set_cons_zero, List.set_cons_succ, i64_w, i32_w]
                  rfl
                refine pure_ (i := 17) (N := (some 114)) (v := _) (a' := ?_) #[true, true, true, true, true, true, true, true, true, true, true, true, true, true, true, true, true, true, false, false, false, false, false, false, false, false, false, false, false] rfl rfl (by kernel_rfl) (fun _ _ _ h => h) (Or.inr ⟨by rfl, rfl⟩) ?_ ?_
                rotate_left
                · simp only [Act.put, List.setIfInBounds_toArray, List.set_cons_zero, List.set_cons_succ, i64_w, i32_w]
                  rfl
                refine pure_ (i := 18) (N := (some 115)) (v := _) (a' := ?_) #[true, true, true, true, true, true, true, true, true, true, true, true, true, true, true, true, true, true, true, false, false, false, false, false, false, false, false, false, false] rfl rfl (by kernel_rfl) (fun _ _ _ h => h) (Or.inr ⟨by rfl, rfl⟩) ?_ ?_
                rotate_left
                · simp only [Act.put, List.setIfInBounds_toArray, List.set_cons_zero, List.set_cons_succ, i64_w, i32_w]
                  rfl
                refine pure_ (i := 19) (N := (some 116)) (v := _) (a' := ?_) #[true, true, true, true, true, true, true, true, true, true, true, true, true, true, true, true, true, true, true, true, false, false, false, false, false, false, false, false, false] rfl rfl (by kernel_rfl) (fun _ _ _ h => h) (Or.inr ⟨by rfl, rfl⟩) ?_ ?_
                rotate_left
                · simp only [Act.put, List.setIfInBounds_toArray, List.set_cons_zero, List.set_cons_succ, i64_w, i32_w]
                  rfl
                refine pure_ (i := 20) (N := (some 117)) (v := _) (a' := ?_) #[true, true, true, true, true, true, true, true, true, true, true, true, true, true, true, true, true, true, true, true, true, false, false, false, false, false, false, false, false] rfl rfl (by kernel_rfl) (fun _ _ _ h => h) (Or.inr ⟨by rfl, rfl⟩) ?_ ?_
                rotate_left
                · simp only [Act.put, List.setIfInBounds_toArray, List.set_cons_zero, List.set_cons_succ, i64_w, i32_w]
                  rfl
                refine pure_ (i := 21) (N := (some 118)) (v := _) (a' := ?_) #[true, true, true, true, true, true, true, true, true, true, true, true, true, true, true, true, true, true, true, true, true, true, false, false, false, false, false, false, false] rfl rfl (by kernel_rfl) (fun _ _ _ h => h) (Or.inr ⟨by rfl, rfl⟩) ?_ ?_
                rotate_left
                · simp only [Act.put, List.setIfInBounds_toArray, List.set_cons_zero, List.set_cons_succ, i64_w, i32_w]
                  rfl
                refine pure_ (i := 22) (N := (some 119)) (v := _) (a' := ?_) #[true, true, true, true, true, true, true, true, true, true, true, true, true, true, true, true, true, true, true, true, true, true, true, false, false, false, false, false, false] rfl rfl (by kernel_rfl) (fun _ _ _ h => h) (Or.inr ⟨by rfl, rfl⟩) ?_ ?_
                rotate_left
                · simp only [Act.put, List.setIfInBounds_toArray, List.set_cons_zero, List.set_cons_succ, i64_w, i32_w]
                  rfl
                refine pure_ (i := 23) (N := (some 120)) (v := _) (a' := ?_) #[true, true, true, true, true, true, true, true, true, true, true, true, true, true, true, true, true, true, true, true, true, true, true, true, false, false, false, false, false] rfl rfl (by kernel_rfl) (fun _ _ _ h => h) (Or.inr ⟨by rfl, rfl⟩) ?_ ?_
                rotate_left
                · simp only [Act.put, List.setIfInBounds_toArray, List.set_cons_zero, List.set_cons_succ, i64_w, i32_w]
                  rfl
                refine pure_ (i := 24) (N := (some 121)) (v := _) (a' := ?_) #[true, true, true, true, true, true, true, true, true, true, true, true, true, true, true, true, true, true, true, true, true, true, true, true, true, false, false, false, false] rfl rfl (by kernel_rfl) (fun _ _ _ h => h) (Or.inr ⟨by rfl, rfl⟩) ?_ ?_
                rotate_left
                · simp only [Act.put, List.setIfInBounds_toArray, List.set_cons_zero, List.set_cons_succ, i64_w, i32_w]
                  rfl
                refine pure_ (i := 25) (N := (some 122)) (v := _) (a' := ?_) #[true, true, true, true, true, true, true, true, true, true, true, true, true, true, true, true, true, true, true, true, true, true, true, true, true, true, false, false, false] rfl rfl (by kernel_rfl) (fun _ _ _ h => h) (Or.inr ⟨by rfl, rfl⟩) ?_ ?_
                rotate_left
                · simp only [Act.put, List.setIfInBounds_toArray, List.set_cons_zero, List.set_cons_succ, i64_w, i32_w]
                  rfl
                refine pure_ (i := 26) (N := (some 123)) (v := _) (a' := ?_) #[true, true, true, true, true, true, true, true, true, true, true, true, true, true, true, true, true, true, true, true, true, true, true, true, true, true, true, false, false] rfl rfl (by kernel_rfl) (fun _ _ _ h => h) (Or.inr ⟨by rfl, rfl⟩) ?_ ?_
                rotate_left
                · simp only [Act.put, List.setIfInBounds_toArray, List.set_cons_zero, List.set_cons_succ, i64_w, i32_w]
                  rfl
                refine pure_ (i := 27) (N := (some 124)) (v := ?_) (a' := ?_) #[true, true, true, true, true, true, true, true, true, true, true, true, true, true, true, true, true, true, true, true, true, true, true, true, true, true, true, true, false] rfl rfl (by kernel_rfl) (fun _ _ _ h => h) (Or.inl ⟨by rfl, ?_⟩) ?_ ?_
                rotate_left
                · intro w'
                  go_simp
                  with_reducible rfl
                rotate_left
                · simp only [Act.put, List.setIfInBounds_toArray, List.set_cons_zero, List.set_cons_succ, i64_w, i32_w]
                  rfl
                refine pure_ (i := 28) (N := (some 125)) (v := ?_) (a' := ?_) #[true, true, true, true, true, true, true, true, true, true, true, true, true, true, true, true, true, true, true, true, true, true, true, true, true, true, true, true, true] rfl rfl (by kernel_rfl) (fun _ _ _ h => h) (Or.inl ⟨by rfl, ?_⟩) ?_ ?_
                rotate_left
                · intro w'
                  go_simp
                  with_reducible rfl
                rotate_left
                · simp only [Act.put, List.setIfInBounds_toArray, List.set_cons_zero, List.set_cons_succ, i64_w, i32_w]
                  rfl
                refine done_ (by kernel_rfl) ?_
                rw [HZ.out]
                have HB4 := Aside0.mk (below_drew1 HB3.out)
                go_wp2
                go_roundg (m - (j + 1))
                case measure => omega
                case rel => exact ⟨j + 1, by go_num, hlt, Nat.le_refl _, HB4⟩
              · obtain ⟨q, hq⟩ : ∃ q, j = q + 1 := ⟨j - 1, by omega⟩
                subst hq
                obtain ⟨x', hx'⟩ : ∃ x', xl[q]? = some x' := ⟨_, List.getElem?_eq_getElem (by rw [← HM.out]; omega)⟩
                have hrise := HSTEP.out q x' x hx' HX.out
                obtain ⟨ad3, e3, y3, _⟩ := HXR.out wr HB3.out q x' hx'
                obtain rfl : ad2 = ad3 := by injection e3
                have hw1 : IntKind.i64.wrap (((q + 1 : Nat) : Int) - 1) = (q : Int) := by rw [IntKind.wrap_i64]; omega
                have hqm : (q : Int) < (m : Int) := by omega
                have hq0 : (0 : Int) ≤ (q : Int) := by omega
                have hjp : (0 : Int) < ((q + 1 : Nat) : Int) := by omega
                have hle : ¬ x.f0 ≤ x'.f0 := by omega
                clear hx' hrise e3
                go_upto_region 25 with fail
                go_quiet (fail)
                go_wp2
                go_roundg (m - (q + 1 + 1))
                case measure => omega
                case rel => exact ⟨q + 1 + 1, by go_num, hlt, Nat.le_refl _, ⟨pw_below_drewN HB3.out _⟩⟩
        · have hjm : m = j := by omega
          subst hjm
          clear hlt hj hjx
          go_wp2
          go_loopg [14] n (fun kx v14 wr => ∃ i : Nat, v14 = .int .i64 i ∧ i ≤ n ∧ n - i ≤ kx ∧ Aside0 (Below W2.heap.size W2 wr))
          case atStart => exact ⟨0, rfl, Nat.zero_le _, Nat.le_refl _, HB3⟩
          case round =>
            clear HB3
            obtain ⟨i, rfl, hi, hix, HB3⟩ := hrel
            by_cases hlt : i < n
            · have hltz : (i : Int) < (n : Int) := by omega
              go_wp2
              go_loopg [15, 16] m (fun kx v15 v16 wr => ∃ (j : Nat) (b : Bool), v16 = .int .i64 j ∧ v15 = .bool b ∧ j ≤ m ∧ m - j ≤ kx ∧ Aside0 (Below W2.heap.size W2 wr) ∧ Aside0 (∀ j', j' < j → ∀ x, xl[j']? = some x → x.f0 = T i → b = true))
              case atStart => exact ⟨0, false, rfl, rfl, Nat.zero_le _, Nat.le_refl _, HB3, ⟨fun j' hj' => by omega⟩⟩
              case round =>
                clear HB3
                obtain ⟨j, b, rfl, rfl, hj, hjx, HB3, HSEEN⟩ := hrel
                by_cases hlt2 : j < m
                · have hlt2z : (j : Int) < (m : Int) := by omega
                  have hj0 : (0 : Int) ≤ (j : Int) := by omega
                  have hi0 : (0 : Int) ≤ (i : Int) := by omega
                  have hjm : j ≤ 9223372036854775806 := by omega
                  obtain ⟨x, hx⟩ : ∃ x, xl[j]? = some x := ⟨_, List.getElem?_eq_getElem (by rw [← HM.out]; exact hlt2)⟩
                  have HX := Aside0.mk hx
                  obtain ⟨ad0, e0, x0⟩ := HRT.out wr (below_step HB2.out HB3.out) i hlt
                  obtain ⟨ad2, e2, y0, _⟩ := HXR.out wr HB3.out j x hx
                  subst e0
                  subst e2
                  clear hx
                  cases b with
                  | true =>
                    go_upto_region 34 with fail
                    go_quiet (fail)
                    go_wp2
                    go_roundg (m - (j + 1))
                    case measure => omega
                    case rel => exact ⟨j + 1, true, by go_num, rfl, hlt2, Nat.le_refl _, ⟨pw_below_drewN HB3.out _⟩, ⟨fun _ _ _ _ _ => rfl⟩⟩
                  | false =>
                    by_cases h3 : x.f0 = T i
                    · go_upto_region 34 with fail
                      go_quiet (fail)
                      go_wp2
                      go_roundg (m - (j + 1))
                      case measure => omega
                      case rel => exact ⟨j + 1, true, by go_num, rfl, hlt2, Nat.le_refl _, ⟨pw_below_drewN HB3.out _⟩, ⟨fun _ _ _ _ _ => rfl⟩⟩
                    · go_upto_region 34 with fail
                      go_quiet (fail)
                      go_wp2
                      go_roundg (m - (j + 1))
                      case measure => omega
                      case rel =>
                        refine ⟨j + 1, false, by go_num, by rw [beq_eq_false_iff_ne.2 h3], hlt2, Nat.le_refl _, ⟨pw_below_drewN HB3.out _⟩, ⟨fun j' hj' y hy hye => ?_⟩⟩
                        by_cases he : j' = j
                        · rw [he, HX.out] at hy
                          injection hy with hy
                          rw [← hy] at hye
                          exact absurd hye h3
                        · exact HSEEN.out j' (by omega) y hy hye
                · have hjm : m = j := by omega
                  subst hjm
                  obtain ⟨y, hy, hye⟩ := HHAS.out i hlt
                  obtain ⟨j', hj', hjy⟩ := List.getElem_of_mem hy
                  have hb := HSEEN.out j' (by rw [HM.out]; exact hj') y (by rw [List.getElem?_eq_getElem hj', hjy]) hye
                  subst hb
                  have him : i ≤ 9223372036854775806 := by omega
                  clear hy hye hj' hjy
                  go_wp2
                  go_roundg (n - (i + 1))
                  case measure => omega
                  case rel => exact ⟨i + 1, by go_num, hlt, Nat.le_refl _, HB3⟩
            · have hin : n = i := by omega
              subst hin
              go_wp2
              go_ret
              exact ⟨rfl, below_step HB2.out HB3.out⟩
end
end Go.Proofs.Ytcgocdhffcnleaa.PHead
