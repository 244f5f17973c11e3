/- A part of the proofs about the head: see the theorems' own lines. -/
import Derived.Test.YtcgocdhffcnleaaPHeadPlaysx0
import Derived.Test.YtcgocdhffcnleaaXStr
import Derived.Test.YtcgocdhffcnleaaXHand
import Derived.Test.YtcgocdhffcnleaaXLab
import Derived.Lib.OthersKept
import Derived.Laws.RangeString
namespace Go.Proofs.Ytcgocdhffcnleaa.PHead
open Go Go.RowKit Go.Proofs.YtcgocdhffcnleaaW.PrintWords Go.Proofs.YtcgocdhffcnleaaW.PrintLast Go.Proofs.YtcgocdhffcnleaaW.PrintMore Go.Proofs.Ytcgocdhffcnleaa.XB Go.Proofs.Ytcgocdhffcnleaa.PHeadPlays
set_option linter.unusedVariables false
set_option linter.unusedSimpArgs false
/-! ### a label's name -/
def labels_Name.okB (b : UInt8) : Bool := (97 ≤ b.toNat && b.toNat ≤ 122) || (65 ≤ b.toNat && b.toNat ≤ 90) || (48 ≤ b.toNat && b.toNat ≤ 57) || b.toNat == 95
def labels_Name.ok (s : ByteArray) : Bool := s.size != 0 && decide (s.size ≤ 64) && !(decide (48 ≤ bt s 0) && decide (bt s 0 ≤ 57)) && s.data.toList.all labels_Name.okB
def labels_Name.f (a0 : ByteArray) : Option Bool := some (labels_Name.ok a0)
theorem labels_Name.decode_high (s : ByteArray) (i : Nat) (h : i < s.size) (hb : 128 ≤ (s[i]'h).toNat) : 128 ≤ (Utf8.decode s i).1 := by
  have e : s.get! (i + 0) = s[i]'h := by
    show s.get! i = _
    simp [ByteArray.get!, getElem!_pos, h]
    rfl
  have hr : 128 ≤ Utf8.runeError := by decide
  simp only [Utf8.decode, e]
  rw [if_neg (by omega)]
  split
  · split
    · rename_i h1; exact h1
    · exact hr
  · split
    · split
      · rename_i h1
        simp only [Bool.and_eq_true, decide_eq_true_eq] at h1
        exact Nat.le_trans (by decide) h1.1
      · exact hr
    · split
      · split
        · rename_i h1
          simp only [Bool.and_eq_true, decide_eq_true_eq] at h1
          exact Nat.le_trans (by decide) h1.1
        · exact hr
      · exact hr
theorem labels_Name.ok_bad {s : ByteArray} {pos : Nat} (h : pos < s.size) (hb : labels_Name.okB (s[pos]'h) = false) : labels_Name.ok s = false := by
  have : s.data.toList.all labels_Name.okB = false := by
    rw [List.all_eq_false]
    refine ⟨s[pos]'h, ?_, by rw [hb]; decide⟩
    rw [Array.mem_toList_iff]
    exact Array.getElem_mem h
  unfold labels_Name.ok
  rw [this, Bool.and_false]
theorem labels_Name.ok_good {s : ByteArray} (h0 : ¬ s.size = 0) (h64 : s.size ≤ 64) (hd : ¬ (48 ≤ bt s 0 ∧ bt s 0 ≤ 57)) (h : ∀ i (hi : i < s.size), labels_Name.okB (s[i]'hi) = true) : labels_Name.ok s = true := by
  have h1 : s.data.toList.all labels_Name.okB = true := by
    rw [List.all_eq_true]
    intro b hb
    rw [Array.mem_toList_iff] at hb
    obtain ⟨i, hi, rfl⟩ := Array.mem_iff_getElem.1 hb
    exact h i hi
  have h2 : (decide (48 ≤ bt s 0) && decide (bt s 0 ≤ 57)) = false := by
    rw [Bool.and_eq_false_iff]
    by_cases h3 : 48 ≤ bt s 0
    · exact .inr (decide_eq_false (fun h4 => hd ⟨h3, h4⟩))
    · exact .inl (decide_eq_false h3)
  unfold labels_Name.ok
  rw [h1, h2, decide_eq_true h64, bne_iff_ne.2 h0]
  rfl
/-- The rune at a place, and the byte there. -/
theorem labels_Name.rune {s : ByteArray} {pos : Nat} (h : pos < s.size) : ∃ r wd, Utf8.decode s pos = (r, wd) ∧ ((r < 128 ∧ wd = 1 ∧ (s[pos]'h).toNat = r) ∨ (128 ≤ r ∧ labels_Name.okB (s[pos]'h) = false)) := by
  by_cases ha : (s[pos]'h).toNat < 128
  · exact ⟨_, _, decode_ascii s pos h ha, .inl ⟨ha, rfl, rfl⟩⟩
  · refine ⟨_, _, rfl, .inr ⟨labels_Name.decode_high s pos h (by omega), ?_⟩⟩
    unfold labels_Name.okB
    simp only [Bool.or_eq_false_iff, Bool.and_eq_false_iff, decide_eq_false_iff_not, beq_eq_false_iff_ne]
    omega
set_option maxHeartbeats 4000000 in
set_option maxRecDepth 100000 in
theorem labels_Name.calls (s : ByteArray) (w : World) : Calls Try.prog 107 #[.string s] w fun e w' => e = .returned (.bool (labels_Name.ok s)) ∧ Below w.heap.size w w' := by
  by_cases h0 : s.size = 0
  · have e : s = ⟨#[]⟩ := by
      cases s with
      | mk d =>
        have : d.size = 0 := h0
        rw [Array.eq_empty_of_size_eq_zero this]
    subst e
    go_enter Try.func107, Try.ntmps107
    go_wp2
    go_ret
    exact ⟨rfl, Below.refl _ _⟩
  · have hne : (s.toList == []) = false := by
      rw [beq_eq_false_iff_ne]
      intro h
      rw [Go.ByteArray.toList_eq] at h
      exact h0 (by have := congrArg List.length h; rw [Array.length_toList] at this; exact this)
    have hne2 : s.toList.isEmpty = false := by
      cases h : s.toList with
      | nil => rw [h] at hne; cases hne
      | cons => rfl
    have hpos : (0 : Int) < (s.size : Int) := by omega
    by_cases h64 : s.size ≤ 64
    · have h64z : ¬ (s.size : Int) > 64 := by omega
      have h64y : ¬ (64 : Int) < (s.size : Int) := by omega
      have h64b : decide ((s.size : Int) > 64) = false := decide_eq_false h64z
      have hp0 : 0 < s.size := by omega
      obtain ⟨b0, hb0⟩ : ∃ b0, b0 = (s[0]'hp0).toNat := ⟨_, rfl⟩
      have hbz : ∀ h : 0 < s.size, (s[0]'h).toNat = b0 := fun _ => hb0.symm
      have hbt : bt s 0 = (b0 : Int) := by rw [hb0]; unfold bt; simp [hp0]
      have HBT := Aside0.mk hbt
      clear hb0 hbt
      by_cases hd : 48 ≤ b0 ∧ b0 ≤ 57
      · obtain ⟨d1, d2⟩ := hd
        have hok : labels_Name.ok s = false := by
          unfold labels_Name.ok
          rw [HBT.out, decide_eq_true (show (48 : Int) ≤ (b0 : Int) by omega), decide_eq_true (show (b0 : Int) ≤ 57 by omega)]
          simp
        have HOK := Aside0.mk hok
        clear hok
        have d1z : (48 : Int) ≤ (b0 : Int) := by omega
        have d2z : (b0 : Int) ≤ 57 := by omega
        go_enter Try.func107, Try.ntmps107
        go_wp2
        go_ret
        exact ⟨by rw [HOK.out]; rfl, Below.refl _ _⟩
      · have HD := Aside0.mk hd
        have HH := Aside0.mk (And.intro h0 h64)
        have hor : b0 < 48 ∨ (48 ≤ b0 ∧ 57 < b0) := by omega
        clear hd
        rcases hor with hlo | ⟨hlo, hhi⟩
        all_goals
          have hloz := hlo
          first | (have e1 : ¬ (48 : Int) ≤ (b0 : Int) := by omega) | skip
          first | (have e2 : ¬ (b0 : Int) ≤ 57 := by omega) | skip
          first | (have e3 : (48 : Int) ≤ (b0 : Int) := by omega) | skip
          go_enter Try.func107, Try.ntmps107
          go_wp2
          go_loopg [4] s.size (fun kx v4 wr => ∃ pos : Nat, Aside0 (wr.heap[w.heap.size]? = some (.stringIter s pos)) ∧ pos ≤ s.size ∧ s.size - pos ≤ kx ∧ Aside0 (Below w.heap.size w wr) ∧ Aside0 (∀ i (hi : i < s.size), i < pos → labels_Name.okB (s[i]'hi) = true))
          case atStart => exact ⟨0, ⟨World.iter_heap w s 0⟩, Nat.zero_le _, Nat.le_refl _, ⟨below_alloc (Below.refl _ _) _⟩, ⟨fun i hi h => absurd h (Nat.not_lt_zero _)⟩⟩
          case round =>
            obtain ⟨pos, HIT, hps, hkx, HB, HALL⟩ := hrel
            by_cases hp : pos < s.size
            · obtain ⟨r, wd, hdec, hrw⟩ := labels_Name.rune hp
              have hnx : ∀ ty, (Instr.next (.pointer (some ⟨w.heap.size, 0, none⟩)) true ty).run Try.prog wr = _ := fun ty => Lib.run_next_any_at wr w.heap.size s pos ty HIT.out hp
              have hit2 := Lib.iterAt_heap wr w.heap.size s pos (pos + (Utf8.decode s pos).2) HIT.out
              have hbw2 := Lib.below_iterAt HB.out (k := w.heap.size) (Nat.le_refl _) s (pos + (Utf8.decode s pos).2)
              rw [hdec] at hnx hit2 hbw2
              dsimp only at hnx hit2 hbw2
              obtain ⟨W1, hW1⟩ : ∃ W1, W1 = wr.iterAt w.heap.size s (pos + wd) := ⟨_, rfl⟩
              rw [← hW1] at hnx hit2 hbw2
              have HIT2 := Aside0.mk hit2
              have HB2 := Aside0.mk hbw2
              have HRW := Aside0.mk hrw
              clear hW1 hdec hit2 hbw2 hrw HIT HB
              have hcase : (97 ≤ r ∧ r ≤ 122) ∨ (65 ≤ r ∧ r ≤ 90) ∨ (48 ≤ r ∧ r ≤ 57) ∨ r = 95 ∨ r < 48 ∨ (57 < r ∧ r < 65) ∨ (90 < r ∧ r < 97 ∧ r ≠ 95) ∨ 122 < r := by omega
              have HGOOD := Aside0.mk (show ((97 ≤ r ∧ r ≤ 122) ∨ (65 ≤ r ∧ r ≤ 90) ∨ (48 ≤ r ∧ r ≤ 57) ∨ r = 95) → wd = 1 ∧ labels_Name.okB (s[pos]'hp) = true from fun h => by
                rcases HRW.out with ⟨_, h1, h2⟩ | ⟨h1, _⟩
                · refine ⟨h1, ?_⟩
                  unfold labels_Name.okB
                  rw [h2]
                  simp only [Bool.or_eq_true, Bool.and_eq_true, decide_eq_true_eq, beq_iff_eq]
                  omega
                · omega)
              have HBAD := Aside0.mk (show ¬ ((97 ≤ r ∧ r ≤ 122) ∨ (65 ≤ r ∧ r ≤ 90) ∨ (48 ≤ r ∧ r ≤ 57) ∨ r = 95) → labels_Name.ok s = false from fun h => by
                refine labels_Name.ok_bad hp ?_
                rcases HRW.out with ⟨_, h1, h2⟩ | ⟨_, h1⟩
                · unfold labels_Name.okB
                  rw [h2]
                  simp only [Bool.or_eq_false_iff, Bool.and_eq_false_iff, decide_eq_false_iff_not, beq_eq_false_iff_ne]
                  omega
                · exact h1)
              rcases hcase with hc | hc | hc | hc | hc | hc | hc | hc
              iterate 4
                · have HG := Aside0.mk (HGOOD.out (by omega))
                  have r1 : (97 : Int) ≤ (r : Int) ∨ ¬ (97 : Int) ≤ (r : Int) := by omega
                  first | subst hc | skip
                  rcases r1 with r1 | r1
                  all_goals
                    first
                      | (exfalso; omega)
                      | (first | (have r2 : (r : Int) ≤ 122 := by omega) | skip
                         first | (have r3 : (65 : Int) ≤ (r : Int) := by omega) | (have r3 : ¬ (65 : Int) ≤ (r : Int) := by omega) | skip
                         first | (have r4 : (r : Int) ≤ 90 := by omega) | (have r4 : ¬ (r : Int) ≤ 90 := by omega) | skip
                         first | (have r5 : ¬ (r : Int) < 48 := by omega) | skip
                         first | (have r6 : (r : Int) > 57 := by omega) | (have r6 : ¬ (r : Int) > 57 := by omega) | skip
                         go_wp2
                         go_roundg (s.size - (pos + 1))
                         case measure => omega
                         case rel =>
                           refine ⟨pos + wd, HIT2, by have := HG.out.1; omega, by have := HG.out.1; omega, HB2, ⟨fun i hi hlt => ?_⟩⟩
                           by_cases e : i = pos
                           · subst e; exact HG.out.2
                           · exact HALL.out i hi (by have := HG.out.1; omega))
              iterate 4
                · have HF := Aside0.mk (HBAD.out (by omega))
                  have r7 : ((r : Int) != 95) = true := by rw [bne_iff_ne]; omega
                  first | (have r1 : (97 : Int) ≤ (r : Int) := by omega) | (have r1 : ¬ (97 : Int) ≤ (r : Int) := by omega)
                  first | (have r2 : (r : Int) ≤ 122 := by omega) | (have r2 : ¬ (r : Int) ≤ 122 := by omega) | skip
                  first | (have r3 : (65 : Int) ≤ (r : Int) := by omega) | (have r3 : ¬ (65 : Int) ≤ (r : Int) := by omega) | skip
                  first | (have r4 : (r : Int) ≤ 90 := by omega) | (have r4 : ¬ (r : Int) ≤ 90 := by omega) | skip
                  first | (have r5 : (r : Int) < 48 := by omega) | (have r5 : ¬ (r : Int) < 48 := by omega) | skip
                  first | (have r6 : (r : Int) > 57 := by omega) | (have r6 : ¬ (r : Int) > 57 := by omega) | skip
                  go_wp2
                  go_ret
                  exact ⟨by rw [HF.out]; rfl, HB2.out⟩
            · have hnx : ∀ ty, (Instr.next (.pointer (some ⟨w.heap.size, 0, none⟩)) true ty).run Try.prog wr = _ := fun ty => Lib.run_next_end_at wr w.heap.size s pos ty HIT.out hp
              have hok : labels_Name.ok s = true := labels_Name.ok_good HH.out.1 HH.out.2 (by rw [HBT.out]; intro h; exact HD.out ⟨by omega, by omega⟩) (fun i hi => HALL.out i hi (by omega))
              have HOK := Aside0.mk hok
              clear hok
              go_wp2
              go_ret
              exact ⟨by rw [HOK.out]; rfl, HB.out⟩
    · have h64z : (s.size : Int) > 64 := by omega
      have h64y : (64 : Int) < (s.size : Int) := by omega
      have h64b : decide ((s.size : Int) > 64) = true := decide_eq_true h64z
      have hok : labels_Name.ok s = false := by
        unfold labels_Name.ok
        rw [decide_eq_false h64]
        simp
      have HOK := Aside0.mk hok
      clear hok
      go_enter Try.func107, Try.ntmps107
      go_wp2
      go_ret
      exact ⟨by rw [HOK.out]; rfl, Below.refl _ _⟩
end Go.Proofs.Ytcgocdhffcnleaa.PHead
