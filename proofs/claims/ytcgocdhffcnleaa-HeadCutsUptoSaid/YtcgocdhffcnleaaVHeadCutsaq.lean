/- Parts of the proof of the law's row, put together: see the theorems' own lines. -/
import Derived.Test.YtcgocdhffcnleaaVHeadCutsag
import Derived.Test.YtcgocdhffcnleaaVHeadCutsad
import Derived.Test.YtcgocdhffcnleaaVHeadCutsae
import Derived.Test.YtcgocdhffcnleaaVHeadCutsan
import Derived.Lib.OthersKept
import Derived.Laws.RangeString
/- A part of the proofs about the head: see the theorems' own lines. -/
namespace Go.Proofs.Ytcgocdhffcnleaa.PHead
open Go Go.RowKit Go.Proofs.YtcgocdhffcnleaaW.PrintWords Go.Proofs.YtcgocdhffcnleaaW.PrintLast Go.Proofs.YtcgocdhffcnleaaW.PrintMore Go.Proofs.Ytcgocdhffcnleaa.XB Go.Proofs.Ytcgocdhffcnleaa.PHeadPlays
set_option linter.unusedVariables false
set_option linter.unusedSimpArgs false
/-! ### a label's name -/
def labels_Name.okB (b : UInt8) : Bool := (97 ≤ b.toNat && b.toNat ≤ 122) || (65 ≤ b.toNat && b.toNat ≤ 90) || (48 ≤ b.toNat && b.toNat ≤ 57) || b.toNat == 95
def labels_Name.ok (s : ByteArray) : Bool := s.size != 0 && decide (s.size ≤ 64) && !(decide (48 ≤ bt s 0) && decide (bt s 0 ≤ 57)) && s.data.toList.all labels_Name.okB
def labels_Name.f (a0 : ByteArray) : Option Bool := some (labels_Name.ok a0)
theorem labels_Name.decode_high (s : ByteArray) (i : Nat) (h : i < s.size) (hb : 128 ≤ (s[i]'h).toNat) : 128 ≤ (Utf8.decode s i).1 := by
  have e : s.get! (i + 0) = s[i]'h := by
    show s.get! i = _
    simp [ByteArray.get!, getElem!_pos, h]
    rfl
  have hr : 128 ≤ Utf8.runeError := by decide
  simp only [Utf8.decode, e]
  rw [if_neg (by omega)]
  split
  · split
    · rename_i h1; exact h1
    · exact hr
  · split
    · split
      · rename_i h1
        simp only [Bool.and_eq_true, decide_eq_true_eq] at h1
        exact Nat.le_trans (by decide) h1.1
      · exact hr
    · split
      · split
        · rename_i h1
          simp only [Bool.and_eq_true, decide_eq_true_eq] at h1
          exact Nat.le_trans (by decide) h1.1
        · exact hr
      · exact hr
theorem labels_Name.ok_bad {s : ByteArray} {pos : Nat} (h : pos < s.size) (hb : labels_Name.okB (s[pos]'h) = false) : labels_Name.ok s = false := by
  have : s.data.toList.all labels_Name.okB = false := by
    rw [List.all_eq_false]
    refine ⟨s[pos]'h, ?_, by rw [hb]; decide⟩
    rw [Array.mem_toList_iff]
    exact Array.getElem_mem h
  unfold labels_Name.ok
  rw [this, Bool.and_false]
theorem labels_Name.ok_good {s : ByteArray} (h0 : ¬ s.size = 0) (h64 : s.size ≤ 64) (hd : ¬ (48 ≤ bt s 0 ∧ bt s 0 ≤ 57)) (h : ∀ i (hi : i < s.size), labels_Name.okB (s[i]'hi) = true) : labels_Name.ok s = true := by
  have h1 : s.data.toList.all labels_Name.okB = true := by
    rw [List.all_eq_true]
    intro b hb
    rw [Array.mem_toList_iff] at hb
    obtain ⟨i, hi, rfl⟩ := Array.mem_iff_getElem.1 hb
    exact h i hi
  have h2 : (decide (48 ≤ bt s 0) && decide (bt s 0 ≤ 57)) = false := by
    rw [Bool.and_eq_false_iff]
    by_cases h3 : 48 ≤ bt s 0
    · exact .inr (decide_eq_false (fun h4 => hd ⟨h3, h4⟩))
    · exact .inl (decide_eq_false h3)
  unfold labels_Name.ok
  rw [h1, h2, decide_eq_true h64, bne_iff_ne.2 h0]
  rfl
/-- The rune at a place, and the byte there. -/
theorem labels_Name.rune {s : ByteArray} {pos : Nat} (h : pos < s.size) : ∃ r wd, Utf8.decode s pos = (r, wd) ∧ ((r < 128 ∧ wd = 1 ∧ (s[pos]'h).toNat = r) ∨ (128 ≤ r ∧ labels_Name.okB (s[pos]'h) = false)) := by
  by_cases ha : (s[pos]'h).toNat < 128
  · exact ⟨_, _, decode_ascii s pos h ha, .inl ⟨ha, rfl, rfl⟩⟩
  · refine ⟨_, _, rfl, .inr ⟨labels_Name.decode_high s pos h (by omega), ?_⟩⟩
    unfold labels_Name.okB
    simp only [Bool.or_eq_false_iff, Bool.and_eq_false_iff, decide_eq_false_iff_not, beq_eq_false_iff_ne]
    omega
set_option maxHeartbeats 4000000 in
set_option maxRecDepth 100000 in
theorem labels_Name.calls (s : ByteArray) (w : World) : Calls Try.prog 107 #[.string s] w fun e w' => e = .returned (.bool (labels_Name.ok s)) ∧ Below w.heap.size w w' := by
  by_cases h0 : s.size = 0
  · have e : s = ⟨#[]⟩ := by
      cases s with
      | mk d =>
        have : d.size = 0 := h0
        rw [Array.eq_empty_of_size_eq_zero this]
    subst e
    go_enter Try.func107, Try.ntmps107
    go_wp2
    go_ret
    exact ⟨rfl, Below.refl _ _⟩
  · have hne : (s.toList == []) = false := by
      rw [beq_eq_false_iff_ne]
      intro h
      rw [Go.ByteArray.toList_eq] at h
      exact h0 (by have := congrArg List.length h; rw [Array.length_toList] at this; exact this)
    have hne2 : s.toList.isEmpty = false := by
      cases h : s.toList with
      | nil => rw [h] at hne; cases hne
      | cons => rfl
    have hpos : (0 : Int) < (s.size : Int) := by omega
    by_cases h64 : s.size ≤ 64
    · have h64z : ¬ (s.size : Int) > 64 := by omega
      have h64y : ¬ (64 : Int) < (s.size : Int) := by omega
      have h64b : decide ((s.size : Int) > 64) = false := decide_eq_false h64z
      have hp0 : 0 < s.size := by omega
      obtain ⟨b0, hb0⟩ : ∃ b0, b0 = (s[0]'hp0).toNat := ⟨_, rfl⟩
      have hbz : ∀ h : 0 < s.size, (s[0]'h).toNat = b0 := fun _ => hb0.symm
      have hbt : bt s 0 = (b0 : Int) := by rw [hb0]; unfold bt; simp [hp0]
      have HBT := Aside0.mk hbt
      clear hb0 hbt
      by_cases hd : 48 ≤ b0 ∧ b0 ≤ 57
      · obtain ⟨d1, d2⟩ := hd
        have hok : labels_Name.ok s = false := by
          unfold labels_Name.ok
          rw [HBT.out, decide_eq_true (show (48 : Int) ≤ (b0 : Int) by omega), decide_eq_true (show (b0 : Int) ≤ 57 by omega)]
          simp
        have HOK := Aside0.mk hok
        clear hok
        have d1z : (48 : Int) ≤ (b0 : Int) := by omega
        have d2z : (b0 : Int) ≤ 57 := by omega
        go_enter Try.func107, Try.ntmps107
        go_wp2
        go_ret
        exact ⟨by rw [HOK.out]; rfl, Below.refl _ _⟩
      · have HD := Aside0.mk hd
        have HH := Aside0.mk (And.intro h0 h64)
        have hor : b0 < 48 ∨ (48 ≤ b0 ∧ 57 < b0) := by omega
        clear hd
        rcases hor with hlo | ⟨hlo, hhi⟩
        all_goals
          have hloz := hlo
          first | (have e1 : ¬ (48 : Int) ≤ (b0 : Int) := by omega) | skip
          first | (have e2 : ¬ (b0 : Int) ≤ 57 := by omega) | skip
          first | (have e3 : (48 : Int) ≤ (b0 : Int) := by omega) | skip
          go_enter Try.func107, Try.ntmps107
          go_wp2
          go_loopg [4] s.size (fun kx v4 wr => ∃ pos : Nat, Aside0 (wr.heap[w.heap.size]? = some (.stringIter s pos)) ∧ pos ≤ s.size ∧ s.size - pos ≤ kx ∧ Aside0 (Below w.heap.size w wr) ∧ Aside0 (∀ i (hi : i < s.size), i < pos → labels_Name.okB (s[i]'hi) = true))
          case atStart => exact ⟨0, ⟨World.iter_heap w s 0⟩, Nat.zero_le _, Nat.le_refl _, ⟨below_alloc (Below.refl _ _) _⟩, ⟨fun i hi h => absurd h (Nat.not_lt_zero _)⟩⟩
          case round =>
            obtain ⟨pos, HIT, hps, hkx, HB, HALL⟩ := hrel
            by_cases hp : pos < s.size
            · obtain ⟨r, wd, hdec, hrw⟩ := labels_Name.rune hp
              have hnx : ∀ ty, (Instr.next (.pointer (some ⟨w.heap.size, 0, none⟩)) true ty).run Try.prog wr = _ := fun ty => Lib.run_next_any_at wr w.heap.size s pos ty HIT.out hp
              have hit2 := Lib.iterAt_heap wr w.heap.size s pos (pos + (Utf8.decode s pos).2) HIT.out
              have hbw2 := Lib.below_iterAt HB.out (k := w.heap.size) (Nat.le_refl _) s (pos + (Utf8.decode s pos).2)
              rw [hdec] at hnx hit2 hbw2
              dsimp only at hnx hit2 hbw2
              obtain ⟨W1, hW1⟩ : ∃ W1, W1 = wr.iterAt w.heap.size s (pos + wd) := ⟨_, rfl⟩
              rw [← hW1] at hnx hit2 hbw2
              have HIT2 := Aside0.mk hit2
              have HB2 := Aside0.mk hbw2
              have HRW := Aside0.mk hrw
              clear hW1 hdec hit2 hbw2 hrw HIT HB
              have hcase : (97 ≤ r ∧ r ≤ 122) ∨ (65 ≤ r ∧ r ≤ 90) ∨ (48 ≤ r ∧ r ≤ 57) ∨ r = 95 ∨ r < 48 ∨ (57 < r ∧ r < 65) ∨ (90 < r ∧ r < 97 ∧ r ≠ 95) ∨ 122 < r := by omega
              have HGOOD := Aside0.mk (show ((97 ≤ r ∧ r ≤ 122) ∨ (65 ≤ r ∧ r ≤ 90) ∨ (48 ≤ r ∧ r ≤ 57) ∨ r = 95) → wd = 1 ∧ labels_Name.okB (s[pos]'hp) = true from fun h => by
                rcases HRW.out with ⟨_, h1, h2⟩ | ⟨h1, _⟩
                · refine ⟨h1, ?_⟩
                  unfold labels_Name.okB
                  rw [h2]
                  simp only [Bool.or_eq_true, Bool.and_eq_true, decide_eq_true_eq, beq_iff_eq]
                  omega
                · omega)
              have HBAD := Aside0.mk (show ¬ ((97 ≤ r ∧ r ≤ 122) ∨ (65 ≤ r ∧ r ≤ 90) ∨ (48 ≤ r ∧ r ≤ 57) ∨ r = 95) → labels_Name.ok s = false from fun h => by
                refine labels_Name.ok_bad hp ?_
                rcases HRW.out with ⟨_, h1, h2⟩ | ⟨_, h1⟩
                · unfold labels_Name.okB
                  rw [h2]
                  simp only [Bool.or_eq_false_iff, Bool.and_eq_false_iff, decide_eq_false_iff_not, beq_eq_false_iff_ne]
                  omega
                · exact h1)
              rcases hcase with hc | hc | hc | hc | hc | hc | hc | hc
              iterate 4
                · have HG := Aside0.mk (HGOOD.out (by omega))
                  have r1 : (97 : Int) ≤ (r : Int) ∨ ¬ (97 : Int) ≤ (r : Int) := by omega
                  first | subst hc | skip
                  rcases r1 with r1 | r1
                  all_goals
                    first
                      | (exfalso; omega)
                      | (first | (have r2 : (r : Int) ≤ 122 := by omega) | skip
                         first | (have r3 : (65 : Int) ≤ (r : Int) := by omega) | (have r3 : ¬ (65 : Int) ≤ (r : Int) := by omega) | skip
                         first | (have r4 : (r : Int) ≤ 90 := by omega) | (have r4 : ¬ (r : Int) ≤ 90 := by omega) | skip
                         first | (have r5 : ¬ (r : Int) < 48 := by omega) | skip
                         first | (have r6 : (r : Int) > 57 := by omega) | (have r6 : ¬ (r : Int) > 57 := by omega) | skip
                         go_wp2
                         go_roundg (s.size - (pos + 1))
                         case measure => omega
                         case rel =>
                           refine ⟨pos + wd, HIT2, by have := HG.out.1; omega, by have := HG.out.1; omega, HB2, ⟨fun i hi hlt => ?_⟩⟩
                           by_cases e : i = pos
                           · subst e; exact HG.out.2
                           · exact HALL.out i hi (by have := HG.out.1; omega))
              iterate 4
                · have HF := Aside0.mk (HBAD.out (by omega))
                  have r7 : ((r : Int) != 95) = true := by rw [bne_iff_ne]; omega
                  first | (have r1 : (97 : Int) ≤ (r : Int) := by omega) | (have r1 : ¬ (97 : Int) ≤ (r : Int) := by omega)
                  first | (have r2 : (r : Int) ≤ 122 := by omega) | (have r2 : ¬ (r : Int) ≤ 122 := by omega) | skip
                  first | (have r3 : (65 : Int) ≤ (r : Int) := by omega) | (have r3 : ¬ (65 : Int) ≤ (r : Int) := by omega) | skip
                  first | (have r4 : (r : Int) ≤ 90 := by omega) | (have r4 : ¬ (r : Int) ≤ 90 := by omega) | skip
                  first | (have r5 : (r : Int) < 48 := by omega) | (have r5 : ¬ (r : Int) < 48 := by omega) | skip
                  first | (have r6 : (r : Int) > 57 := by omega) | (have r6 : ¬ (r : Int) > 57 := by omega) | skip
                  go_wp2
                  go_ret
                  exact ⟨by rw [HF.out]; rfl, HB2.out⟩
            · have hnx : ∀ ty, (Instr.next (.pointer (some ⟨w.heap.size, 0, none⟩)) true ty).run Try.prog wr = _ := fun ty => Lib.run_next_end_at wr w.heap.size s pos ty HIT.out hp
              have hok : labels_Name.ok s = true := labels_Name.ok_good HH.out.1 HH.out.2 (by rw [HBT.out]; intro h; exact HD.out ⟨by omega, by omega⟩) (fun i hi => HALL.out i hi (by omega))
              have HOK := Aside0.mk hok
              clear hok
              go_wp2
              go_ret
              exact ⟨by rw [HOK.out]; rfl, HB.out⟩
    · have h64z : (s.size : Int) > 64 := by omega
      have h64y : (64 : Int) < (s.size : Int) := by omega
      have h64b : decide ((s.size : Int) > 64) = true := decide_eq_true h64z
      have hok : labels_Name.ok s = false := by
        unfold labels_Name.ok
        rw [decide_eq_false h64]
        simp
      have HOK := Aside0.mk hok
      clear hok
      go_enter Try.func107, Try.ntmps107
      go_wp2
      go_ret
      exact ⟨by rw [HOK.out]; rfl, Below.refl _ _⟩
end Go.Proofs.Ytcgocdhffcnleaa.PHead

/- A part of the proofs about the head: see the theorems' own lines. -/
namespace Go.Proofs.Ytcgocdhffcnleaa.PHead
open Go Go.RowKit Go.Proofs.YtcgocdhffcnleaaW.PrintWords Go.Proofs.YtcgocdhffcnleaaW.PrintLast Go.Proofs.YtcgocdhffcnleaaW.PrintMore Go.Proofs.Ytcgocdhffcnleaa.XB Go.Proofs.Ytcgocdhffcnleaa.PHeadPlays
set_option linter.unusedVariables false
set_option linter.unusedSimpArgs false
/-! ### labels, in plain lists -/
namespace Hl
open Go.Proofs.Ytcgocdhffcnleaa.XLab (sc sc_zero sc_anti sc_tr)
def nm (x : S53) : List UInt8 := x.f0.toList
def ins (x : S53) : List S53 → Option (List S53)
  | [] => some [x]
  | y :: l => if sc (nm y) (nm x) < 0 then (ins x l).map (y :: ·) else if nm y = nm x then none else some (x :: y :: l)
def srt (l : List S53) : Prop := l.Pairwise fun a b => sc (nm a) (nm b) < 0
theorem ins_put (x : S53) (q : List S53) (hq : ∀ y ∈ q, sc (nm x) (nm y) < 0) : ∀ p : List S53, (∀ y ∈ p, sc (nm y) (nm x) < 0) → ins x (p ++ q) = some (p ++ x :: q)
  | [], _ => by
    cases q with
    | nil => rfl
    | cons y q =>
      have h := hq y List.mem_cons_self
      have h2 : ¬ sc (nm y) (nm x) < 0 := fun h3 => by have := (sc_anti _ _).1 h3; omega
      have h3 : nm y ≠ nm x := fun e => by rw [e, (sc_zero _ _).2 rfl] at h; omega
      show (if sc (nm y) (nm x) < 0 then _ else _) = _
      rw [if_neg h2, if_neg h3]
      rfl
  | y :: p, hp => by
    rw [List.cons_append, ins, if_pos (hp y List.mem_cons_self), ins_put x q hq p (fun z hz => hp z (List.mem_cons_of_mem _ hz))]
    rfl
theorem ins_none (x y : S53) (q : List S53) (he : nm y = nm x) : ∀ p : List S53, srt (p ++ y :: q) → ins x (p ++ y :: q) = none
  | [], _ => by
    show (if sc (nm y) (nm x) < 0 then _ else _) = _
    rw [he, (sc_zero _ _).2 rfl, if_neg (by omega), if_pos rfl]
  | z :: p, hs => by
    have h1 := List.pairwise_cons.1 hs
    have h2 : sc (nm z) (nm x) < 0 := by rw [← he]; exact h1.1 y (by simp)
    rw [List.cons_append, ins, if_pos h2, ins_none x y q he p h1.2]
    rfl
theorem ins_some (x : S53) : ∀ (l m : List S53), ins x l = some m → ∃ p q, l = p ++ q ∧ m = p ++ x :: q ∧ (∀ y ∈ p, sc (nm y) (nm x) < 0) ∧ (srt l → ∀ y ∈ q, sc (nm x) (nm y) < 0)
  | [], m, h => by
    have : m = [x] := (Option.some.inj h).symm
    exact ⟨[], [], rfl, this, by simp, by simp⟩
  | y :: l, m, h => by
    replace h : (if sc (nm y) (nm x) < 0 then (ins x l).map (y :: ·) else if nm y = nm x then none else some (x :: y :: l)) = some m := h
    split at h
    · rename_i h1
      obtain ⟨m', hm', rfl⟩ := Option.map_eq_some_iff.1 h
      obtain ⟨p, q, rfl, rfl, h2, h3⟩ := ins_some x l m' hm'
      exact ⟨y :: p, q, rfl, rfl, fun z hz => by
        rcases List.mem_cons.1 hz with rfl | hz
        · exact h1
        · exact h2 z hz, fun hs => h3 (List.pairwise_cons.1 hs).2⟩
    · rename_i h1
      split at h
      · cases h
      · rename_i h2
        have e := (Option.some.inj h).symm
        refine ⟨[], y :: l, rfl, e, by simp, fun hs z hz => ?_⟩
        have h3 : sc (nm x) (nm y) < 0 := by
          have z1 : sc (nm y) (nm x) ≠ 0 := fun e => h2 ((sc_zero _ _).1 e)
          exact (sc_anti _ _).2 (by omega)
        rcases List.mem_cons.1 hz with rfl | hz
        · exact h3
        · exact sc_tr _ _ _ h3 ((List.pairwise_cons.1 hs).1 z hz)
theorem ins_srt {x : S53} {l m : List S53} (h : ins x l = some m) (hs : srt l) : srt m := by
  obtain ⟨p, q, rfl, rfl, h1, h2⟩ := ins_some x l m h
  have h3 := h2 hs
  unfold srt at *
  rw [List.pairwise_append] at hs ⊢
  refine ⟨hs.1, List.pairwise_cons.2 ⟨h3, hs.2.1⟩, fun a ha b hb => ?_⟩
  rcases List.mem_cons.1 hb with rfl | hb
  · exact h1 a ha
  · exact hs.2.2 a ha b hb
theorem ins_len {x : S53} {l m : List S53} (h : ins x l = some m) : m.length = l.length + 1 := by
  obtain ⟨p, q, rfl, rfl, _, _⟩ := ins_some x l m h
  simp; omega
theorem ins_mem {x : S53} {l m : List S53} (h : ins x l = some m) : ∀ y, y ∈ m ↔ y = x ∨ y ∈ l := by
  obtain ⟨p, q, rfl, rfl, _, _⟩ := ins_some x l m h
  intro y
  simp only [List.mem_append, List.mem_cons]
  constructor
  · rintro (h | h | h)
    · exact .inr (.inl h)
    · exact .inl h
    · exact .inr (.inr h)
  · rintro (h | h | h)
    · exact .inr (.inl h)
    · exact .inl h
    · exact .inr (.inr h)
/-- A label that may be. -/
def okL (x : S53) : Bool := labels_Name.ok x.f0 && x.f1.size != 0 && decide (x.f1.size ≤ 64)
def mkf : List S53 → List S53 → Option (List S53)
  | [], out => some out
  | x :: l, out => if okL x = true then (ins x out).bind (mkf l) else none
/-- labels.Make. -/
def mk (l : List S53) : Option (List S53) := if l.length = 0 ∨ 16 < l.length then none else mkf l []
def made (m : List S53) : Prop := srt m ∧ (∀ x ∈ m, okL x = true) ∧ m.length ≠ 0 ∧ m.length ≤ 16
theorem mkf_made : ∀ (l out m : List S53), srt out → (∀ x ∈ out, okL x = true) → mkf l out = some m → srt m ∧ (∀ x ∈ m, okL x = true) ∧ m.length = out.length + l.length
  | [], out, m, hs, ho, h => by
    have : out = m := Option.some.inj h
    subst this
    exact ⟨hs, ho, rfl⟩
  | x :: l, out, m, hs, ho, h => by
    replace h : (if okL x = true then (ins x out).bind (mkf l) else none) = some m := h
    split at h
    · rename_i hx
      obtain ⟨o2, h1, h2⟩ := Option.bind_eq_some_iff.1 h
      obtain ⟨a, b, c⟩ := mkf_made l o2 m (ins_srt h1 hs) (fun y hy => by
        rcases (ins_mem h1 y).1 hy with rfl | hy
        · exact hx
        · exact ho y hy) h2
      refine ⟨a, b, ?_⟩
      rw [c, ins_len h1, List.length_cons]
      omega
    · cases h
theorem mk_made {l m : List S53} (h : mk l = some m) : made m ∧ m.length = l.length := by
  unfold mk at h
  split at h
  · cases h
  · rename_i h0
    obtain ⟨a, b, c⟩ := mkf_made l [] m List.Pairwise.nil (fun _ h => by cases h) h
    have : m.length = l.length := by rw [c]; simp
    exact ⟨⟨a, b, by omega, by omega⟩, this⟩
theorem mkf_of_made : ∀ (l out : List S53), srt (out ++ l) → (∀ x ∈ l, okL x = true) → mkf l out = some (out ++ l)
  | [], out, _, _ => by simp [mkf]
  | x :: l, out, hs, ho => by
    show (if okL x = true then (ins x out).bind (mkf l) else none) = _
    rw [if_pos (ho x List.mem_cons_self)]
    have h1 : ins x out = some (out ++ [x]) := by
      have := ins_put x [] (fun _ h => by cases h) out (fun y hy => (List.pairwise_append.1 hs).2.2 y hy x List.mem_cons_self)
      rw [List.append_nil] at this
      exact this
    rw [h1]
    show mkf l (out ++ [x]) = _
    rw [mkf_of_made l (out ++ [x]) (by rw [List.append_assoc]; exact hs) (fun y hy => ho y (List.mem_cons_of_mem _ hy)), List.append_assoc]
    rfl
theorem mk_of_made {m : List S53} (h : made m) : mk m = some m := by
  obtain ⟨a, b, c, d⟩ := h
  unfold mk
  rw [if_neg (by omega), mkf_of_made m [] a b]
  rfl
/-! #### texts -/
def hx (n : Nat) : UInt8 := if n < 10 then UInt8.ofNat (48 + n) else UInt8.ofNat (87 + n)
def qc (c : UInt8) : List UInt8 := if c.toNat = 34 ∨ c.toNat = 92 ∨ c.toNat < 32 ∨ 126 < c.toNat then [92, hx (c.toNat / 16), hx (c.toNat % 16)] else [c]
def qt (v : List UInt8) : List UInt8 := 34 :: (v.flatMap qc ++ [34])
def labT (x : S53) : List UInt8 := x.f0.toList ++ 61 :: qt x.f1.toList
def bodyT : List S53 → List UInt8
  | [] => [125]
  | x :: l => 44 :: (labT x ++ bodyT l)
def txtB : List S53 → List UInt8
  | [] => []
  | x :: l => 123 :: (labT x ++ bodyT l)
/-- labels.Text. -/
def txt (l : List S53) : ByteArray := match mk l with
  | none => ⟨#[]⟩
  | some m => ⟨(txtB m).toArray⟩
theorem cut1 {c : UInt8} : ∀ {a b x y : List UInt8}, c ∉ a → c ∉ b → a ++ c :: x = b ++ c :: y → a = b ∧ x = y
  | [], [], _, _, _, _, h => ⟨rfl, by simpa using h⟩
  | [], b :: r, _, _, _, hb, h => by
    have : c = b := by simpa using (List.cons.inj h).1
    exact absurd (this ▸ List.mem_cons_self) hb
  | a :: p, [], _, _, ha, _, h => by
    have : a = c := by simpa using (List.cons.inj h).1
    exact absurd (this ▸ List.mem_cons_self) ha
  | a :: p, b :: r, _, _, ha, hb, h => by
    obtain ⟨h1, h2⟩ := List.cons.inj h
    obtain ⟨h3, h4⟩ := cut1 (fun h => ha (List.mem_cons_of_mem _ h)) (fun h => hb (List.mem_cons_of_mem _ h)) h2
    exact ⟨by rw [h1, h3], h4⟩
theorem hx_ne {n : Nat} (h : n < 16) : hx n ≠ 34 ∧ hx n ≠ 92 := by
  have : ∀ n : Fin 16, hx n.val ≠ 34 ∧ hx n.val ≠ 92 := by decide
  exact this ⟨n, h⟩
theorem hx_inj {n m : Nat} (hn : n < 16) (hm : m < 16) (h : hx n = hx m) : n = m := by
  have : ∀ n m : Fin 16, hx n.val = hx m.val → n = m := by decide
  exact congrArg Fin.val (this ⟨n, hn⟩ ⟨m, hm⟩ h)
theorem u8_ext {a b : UInt8} (h : a.toNat = b.toNat) : a = b := UInt8.toNat_inj.1 h
theorem qc_free (c : UInt8) : (34 : UInt8) ∉ qc c := by
  unfold qc
  have hc := c.toNat_lt
  split
  · intro h
    simp only [List.mem_cons, List.not_mem_nil, or_false] at h
    rcases h with h | h | h
    · exact absurd h (by decide)
    · exact (hx_ne (by omega)).1 h.symm
    · exact (hx_ne (by omega)).1 h.symm
  · rename_i h0
    intro h
    have : (34 : UInt8) = c := by simpa using h
    subst this
    exact h0 (.inl rfl)
theorem qc_cut {c d : UInt8} {x y : List UInt8} (h : qc c ++ x = qc d ++ y) : c = d ∧ x = y := by
  unfold qc at h
  have hc := c.toNat_lt
  have hd := d.toNat_lt
  split at h
  · split at h
    · simp only [List.cons_append, List.nil_append, List.cons.injEq, true_and] at h
      have h1 := hx_inj (by omega) (by omega) h.1
      have h2 := hx_inj (by omega) (by omega) h.2.1
      exact ⟨u8_ext (by omega), h.2.2⟩
    · rename_i h0
      simp only [List.cons_append, List.nil_append, List.cons.injEq] at h
      exact absurd (.inr (.inl (by rw [← h.1]; rfl))) h0
  · rename_i h0
    split at h
    · simp only [List.cons_append, List.nil_append, List.cons.injEq] at h
      exact absurd (.inr (.inl (by rw [h.1]; rfl))) h0
    · simpa using h
theorem enc_free (v : List UInt8) : (34 : UInt8) ∉ v.flatMap qc := by
  intro h
  obtain ⟨c, _, hc⟩ := List.mem_flatMap.1 h
  exact qc_free c hc
theorem qc_pos (c : UInt8) : 0 < (qc c).length := by
  unfold qc
  split <;> simp
theorem enc_inj : ∀ {v u : List UInt8}, v.flatMap qc = u.flatMap qc → v = u
  | [], [], _ => rfl
  | [], d :: u, h => by
    exfalso
    have := congrArg List.length h
    simp only [List.flatMap_nil, List.flatMap_cons, List.length_append, List.length_nil] at this
    have := qc_pos d
    omega
  | c :: v, [], h => by
    exfalso
    have := congrArg List.length h
    simp only [List.flatMap_nil, List.flatMap_cons, List.length_append, List.length_nil] at this
    have := qc_pos c
    omega
  | c :: v, d :: u, h => by
    rw [List.flatMap_cons, List.flatMap_cons] at h
    obtain ⟨h1, h2⟩ := qc_cut h
    rw [h1, enc_inj h2]
theorem okB_ne {b : UInt8} (h : labels_Name.okB b = true) : b ≠ 61 := by
  rintro rfl
  exact absurd h (by decide)
theorem ok_bytes {s : ByteArray} (h : labels_Name.ok s = true) : (61 : UInt8) ∉ s.toList := by
  intro hm
  unfold labels_Name.ok at h
  rw [Go.ByteArray.toList_eq] at hm
  simp only [Bool.and_eq_true, List.all_eq_true] at h
  exact okB_ne (h.2 _ hm) rfl
theorem ba_ext {a b : ByteArray} (h : a.toList = b.toList) : a = b := by
  rw [Go.ByteArray.toList_eq, Go.ByteArray.toList_eq] at h
  exact ByteArray.ext (Array.toList_inj.1 h)
theorem labT_cut {x y : S53} {s t : List UInt8} (hx : okL x = true) (hy : okL y = true) (h : labT x ++ s = labT y ++ t) : x = y ∧ s = t := by
  unfold okL at hx hy
  simp only [Bool.and_eq_true] at hx hy
  unfold labT qt at h
  simp only [List.append_assoc, List.cons_append, List.nil_append] at h
  obtain ⟨h1, h2⟩ := cut1 (ok_bytes hx.1.1) (ok_bytes hy.1.1) h
  have h3 := (List.cons.inj h2).2
  obtain ⟨h4, h5⟩ := cut1 (enc_free _) (enc_free _) h3
  refine ⟨?_, h5⟩
  obtain ⟨x0, x1⟩ := x
  obtain ⟨y0, y1⟩ := y
  have e1 : x0 = y0 := ba_ext h1
  have e2 : x1 = y1 := ba_ext (enc_inj h4)
  rw [e1, e2]
theorem bodyT_inj : ∀ {l m : List S53}, (∀ x ∈ l, okL x = true) → (∀ x ∈ m, okL x = true) → bodyT l = bodyT m → l = m
  | [], [], _, _, _ => rfl
  | [], y :: m, _, _, h => by
    exfalso
    exact absurd (List.cons.inj h).1 (by decide)
  | x :: l, [], _, _, h => by
    exfalso
    exact absurd (List.cons.inj h).1 (by decide)
  | x :: l, y :: m, hl, hm, h => by
    obtain ⟨h1, h2⟩ := labT_cut (hl x List.mem_cons_self) (hm y List.mem_cons_self) (List.cons.inj h).2
    rw [h1, bodyT_inj (fun z hz => hl z (List.mem_cons_of_mem _ hz)) (fun z hz => hm z (List.mem_cons_of_mem _ hz)) h2]
theorem txtB_inj {l m : List S53} (hl : made l) (hm : made m) (h : txtB l = txtB m) : l = m := by
  cases l with
  | nil => exact absurd rfl hl.2.2.1
  | cons x l =>
    cases m with
    | nil => exact absurd rfl hm.2.2.1
    | cons y m =>
      have h0 := (List.cons.inj h).2
      obtain ⟨h1, h2⟩ := labT_cut (hl.2.1 x List.mem_cons_self) (hm.2.1 y List.mem_cons_self) h0
      rw [h1, bodyT_inj (fun z hz => hl.2.1 z (List.mem_cons_of_mem _ hz)) (fun z hz => hm.2.1 z (List.mem_cons_of_mem _ hz)) h2]
theorem txt_made {m : List S53} (h : made m) : txt m = ⟨(txtB m).toArray⟩ := by
  unfold txt
  rw [mk_of_made h]
theorem enc_len : ∀ v : List UInt8, (v.flatMap qc).length ≤ 3 * v.length
  | [] => Nat.le_refl _
  | c :: v => by
    have := enc_len v
    rw [List.flatMap_cons, List.length_append, List.length_cons]
    have : (qc c).length ≤ 3 := by unfold qc; split <;> simp
    omega
end Hl
end Go.Proofs.Ytcgocdhffcnleaa.PHead
