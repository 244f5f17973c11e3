/- Parts of the proof of the law's row, put together: see the theorems' own lines. -/
import Derived.Test.YtcgocdhffcnleaaVHeadCutsaq
import Derived.Test.YtcgocdhffcnleaaVHeadCutsag
import Derived.Laws.BitsAllLaws
import Derived.Laws.BitsLemmas
import Derived.Outline
/- A part of the proofs about the head: see the theorems' own lines. -/
namespace Go.Proofs.Ytcgocdhffcnleaa.PHead
open Go Go.RowKit Go.Proofs.YtcgocdhffcnleaaW.PrintWords Go.Proofs.YtcgocdhffcnleaaW.PrintLast Go.Proofs.YtcgocdhffcnleaaW.PrintMore Go.Proofs.Ytcgocdhffcnleaa.XB Go.Proofs.Ytcgocdhffcnleaa.PHeadPlays
set_option linter.unusedVariables false
set_option linter.unusedSimpArgs false
/-! ### labels.Quote: what the printed function comes to -/
def esc (c : Int) : List Int := if c = 34 ∨ c = 92 ∨ c < 32 ∨ 126 < c then [92, bt (⟨#[48, 49, 50, 51, 52, 53, 54, 55, 56, 57, 97, 98, 99, 100, 101, 102]⟩ : ByteArray) (c / 16), bt (⟨#[48, 49, 50, 51, 52, 53, 54, 55, 56, 57, 97, 98, 99, 100, 101, 102]⟩ : ByteArray) (c % 16)] else [c]
theorem and15 {c : Int} (h0 : 0 ≤ c) (h1 : c ≤ 255) : Go.bits .and .u8 c 15 = c % 16 := by
  obtain ⟨n, rfl⟩ := Int.eq_ofNat_of_zero_le h0
  rw [show (15 : Int) = ((15 : Nat) : Int) from rfl, u8_and_nat _ _ (by omega) (by decide)]
  have hd : ∀ y : Fin 256, (y.1 &&& 15) = y.1 % 16 := by decide +kernel
  have := hd ⟨n, by omega⟩
  simp only at this
  rw [this]
  rfl
theorem quote_in {c : Int} (h0 : 0 ≤ c) (h1 : c ≤ 255) (hc : c = 34 ∨ c = 92 ∨ c < 32 ∨ 126 < c) {x3 : List Int} (hl : x3.length + 3 < 140737488355328) (F : List Int → Option ByteArray) :
    (if 0 ≤ (c / 16) then (if (c / 16) < 16 then (if 0 ≤ (Go.bits .and .u8 c 15) then (if (Go.bits .and .u8 c 15) < 16 then ((some (([92, bt (⟨#[48, 49, 50, 51, 52, 53, 54, 55, 56, 57, 97, 98, 99, 100, 101, 102]⟩ : ByteArray) (c / 16), bt (⟨#[48, 49, 50, 51, 52, 53, 54, 55, 56, 57, 97, 98, 99, 100, 101, 102]⟩ : ByteArray) (Go.bits .and .u8 c 15)] : List Int) : List Int)).bind fun y => (if x3.length + y.length < 140737488355328 then F (x3 ++ y) else (none))) else (none)) else (none)) else (none)) else (none)) = F (x3 ++ esc c) := by
  rw [and15 h0 h1, if_pos (by omega), if_pos (by omega), if_pos (by omega), if_pos (by omega), Option.bind_some, if_pos (by simpa using hl)]
  unfold esc
  rw [if_pos hc]
theorem quote_out {c : Int} (hc : ¬ (c = 34 ∨ c = 92 ∨ c < 32 ∨ 126 < c)) {x3 : List Int} (hl : x3.length < 140737488355328) (F : List Int → Option ByteArray) :
    (if x3.length < 140737488355328 then F (x3 ++ [c]) else none) = F (x3 ++ esc c) := by
  rw [if_pos hl]
  unfold esc
  rw [if_neg hc]
def qn : Nat → Nat → ByteArray → List Int
  | 0, _, _ => []
  | d + 1, i, s => esc (bt s i) ++ qn d (i + 1) s
theorem esc_len (c : Int) : (esc c).length ≤ 3 := by unfold esc; split <;> simp
theorem quote_l0 (s : ByteArray) (hs : s.size < 1099511627776) : ∀ (d i : Nat) (x3 : List Int), i + d = s.size → x3.length + 3 * d + 3 < 140737488355328 → labels_Quote.l0 (d + 1) s x3 (s.size : Int) (i : Int) = some (strOfNums ((x3 ++ qn d i s) ++ [34]))
  | 0, i, x3, hi, hl => by
    rw [labels_Quote.l0, if_neg (by omega), if_pos (by omega)]
    show _ = some (strOfNums ((x3 ++ []) ++ [34]))
    rw [List.append_nil]
  | d + 1, i, x3, hi, hl => by
    obtain ⟨c, hc⟩ : ∃ c, c = bt s (i : Int) := ⟨_, rfl⟩
    have hr := bt_range s (i : Int)
    rw [← hc] at hr
    have hw : wrap64 ((i : Int) + 1) = ((i + 1 : Nat) : Int) := by unfold wrap64; omega
    have ih := fun x3 h => quote_l0 s hs d (i + 1) x3 (by omega) h
    have he := esc_len c
    have hq : x3 ++ qn (d + 1) i s = (x3 ++ esc c) ++ qn d (i + 1) s := by rw [List.append_assoc, hc]; rfl
    rw [labels_Quote.l0, if_pos (by omega), if_pos (by omega), if_pos (by omega), ← hc, hw, hq, ← ih (x3 ++ esc c) (by rw [List.length_append]; omega)]
    by_cases h1 : c = 34
    · rw [if_pos h1]
      exact quote_in hr.1 hr.2 (.inl h1) (by omega) (fun y => labels_Quote.l0 (d + 1) s y (s.size : Int) ((i + 1 : Nat) : Int))
    · rw [if_neg h1]
      by_cases h2 : c = 92
      · rw [if_pos h2]
        exact quote_in hr.1 hr.2 (.inr (.inl h2)) (by omega) (fun y => labels_Quote.l0 (d + 1) s y (s.size : Int) ((i + 1 : Nat) : Int))
      · rw [if_neg h2]
        by_cases h3 : c < 32
        · rw [if_pos h3]
          exact quote_in hr.1 hr.2 (.inr (.inr (.inl h3))) (by omega) (fun y => labels_Quote.l0 (d + 1) s y (s.size : Int) ((i + 1 : Nat) : Int))
        · rw [if_neg h3]
          by_cases h4 : c > 126
          · rw [if_pos h4]
            exact quote_in hr.1 hr.2 (.inr (.inr (.inr h4))) (by omega) (fun y => labels_Quote.l0 (d + 1) s y (s.size : Int) ((i + 1 : Nat) : Int))
          · rw [if_neg h4]
            exact quote_out (by omega) (by omega) (fun y => labels_Quote.l0 (d + 1) s y (s.size : Int) ((i + 1 : Nat) : Int))
theorem hex_at (n : Nat) (h : n < 16) : bt (⟨#[48, 49, 50, 51, 52, 53, 54, 55, 56, 57, 97, 98, 99, 100, 101, 102]⟩ : ByteArray) (n : Int) = ((Hl.hx n).toNat : Int) := by
  have : ∀ n : Fin 16, bt (⟨#[48, 49, 50, 51, 52, 53, 54, 55, 56, 57, 97, 98, 99, 100, 101, 102]⟩ : ByteArray) ((n.val : Nat) : Int) = ((Hl.hx n.val).toNat : Int) := by decide
  exact this ⟨n, h⟩
theorem esc_qc (c : UInt8) : esc (c.toNat : Int) = (Hl.qc c).map fun b => (b.toNat : Int) := by
  have hc := c.toNat_lt
  unfold esc Hl.qc
  by_cases h : c.toNat = 34 ∨ c.toNat = 92 ∨ c.toNat < 32 ∨ 126 < c.toNat
  · rw [if_pos h, if_pos (by omega)]
    have e1 : (c.toNat : Int) / 16 = ((c.toNat / 16 : Nat) : Int) := by omega
    have e2 : (c.toNat : Int) % 16 = ((c.toNat % 16 : Nat) : Int) := by omega
    rw [e1, e2, hex_at _ (by omega), hex_at _ (by omega)]
    rfl
  · rw [if_neg h, if_neg (by omega)]
    rfl
theorem qn_enc (s : ByteArray) : ∀ (d i : Nat), i + d = s.size → qn d i s = ((s.data.toList.drop i).flatMap Hl.qc).map fun b => (b.toNat : Int)
  | 0, i, h => by
    rw [List.drop_of_length_le (by rw [Array.length_toList]; show s.size ≤ i; omega)]
    rfl
  | d + 1, i, h => by
    have hi : i < s.data.toList.length := by rw [Array.length_toList]; show i < s.size; omega
    rw [List.drop_eq_getElem_cons hi, List.flatMap_cons, List.map_append, ← qn_enc s d (i + 1) (by omega)]
    show esc (bt s i) ++ _ = _
    congr 1
    rw [← esc_qc]
    congr 1
    unfold bt
    rw [dif_pos (show ((i : Int).toNat) < s.size by omega)]
    simp
    rfl
theorem strOfNums_bytes (l : List UInt8) : strOfNums (l.map fun b => (b.toNat : Int)) = ⟨l.toArray⟩ := by
  unfold strOfNums
  rw [List.map_map]
  congr 2
  rw [show ((fun n : Int => UInt8.ofNat n.toNat) ∘ fun b : UInt8 => (b.toNat : Int)) = id from by funext b; simp, List.map_id]
theorem quote_f (s : ByteArray) (hs : s.size < 1099511627776) : labels_Quote.f (s.size + 1) s = some ⟨(Hl.qt s.toList).toArray⟩ := by
  have h := quote_l0 s hs s.size 0 [34] (by omega) (by simp; omega)
  unfold labels_Quote.f
  rw [show (0 : Int) = ((0 : Nat) : Int) from rfl, h, qn_enc s s.size 0 (by omega), List.drop_zero, ← strOfNums_bytes, Go.ByteArray.toList_eq]
  unfold Hl.qt
  rw [List.map_cons, List.map_append]
  rfl
theorem quote_calls (s : ByteArray) (hs : s.size < 1099511627776) (w : World) : Calls Try.prog 104 #[.string s] w fun e w' => e = .returned (.string ⟨(Hl.qt s.toList).toArray⟩) ∧ Below w.heap.size w w' :=
  labels_Quote.calls (s.size + 1) s _ w (quote_f s hs)
end Go.Proofs.Ytcgocdhffcnleaa.PHead
