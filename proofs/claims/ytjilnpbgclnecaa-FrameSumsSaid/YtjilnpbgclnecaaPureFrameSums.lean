/- For every row of bytes, frame.Sum of the program is the sum that the reference tells (statement FrameSums); condition: the row's own bounds on memory alone. -/
import Derived.Test.YtjilnpbgclnecaaPFrameSumsx1
import Derived.Test.YtjilnpbgclnecaaXPure
set_option linter.unusedVariables false
set_option linter.unusedSimpArgs false
namespace Go.Proofs.Ytjilnpbgclnecaa.Pure
open Go Go.RowKit Go.Proofs.Ytjilnpbgclnecaa.PFrameSums Go.Proofs.Ytjilnpbgclnecaa.XP Go.Proofs.YtjilnpbgclnecaaW.PrintWords Go.Proofs.YtjilnpbgclnecaaW.PrintLast Go.Proofs.YtjilnpbgclnecaaW.PrintMore

/-! ### the sum -/
def step1 (c : Nat) : Nat := if c % 2 = 0 then c / 2 else (c / 2) ^^^ 2197175160
def steps : Nat → Nat → Nat
  | 0, c => c
  | n + 1, c => steps n (step1 c)
def crcB (c : Nat) (b : Int) : Nat := steps 8 (c ^^^ b.toNat)
def crcL (c : Nat) (l : List Int) : Nat := l.foldl crcB c
theorem step1_lt {c : Nat} (h : c < 4294967296) : step1 c < 4294967296 := by
  unfold step1
  split
  · omega
  · exact Nat.xor_lt_two_pow (n := 32) (by omega) (by omega)
theorem steps_lt (n : Nat) : ∀ {c : Nat}, c < 4294967296 → steps n c < 4294967296 := by
  induction n with
  | zero => intro c h; exact h
  | succ n ih => intro c h; exact ih (step1_lt h)
theorem crcB_lt {c : Nat} {b : Int} (h : c < 4294967296) (h0 : 0 ≤ b) (h1 : b ≤ 255) : crcB c b < 4294967296 :=
  steps_lt 8 (Nat.xor_lt_two_pow (n := 32) (by omega) (by omega))
theorem crcL_lt (l : List Int) : ∀ {c : Nat}, c < 4294967296 → (∀ x ∈ l, 0 ≤ x ∧ x ≤ 255) → crcL c l < 4294967296 := by
  induction l with
  | nil => intro c h _; exact h
  | cons b l ih =>
    intro c h hl
    exact ih (crcB_lt h (hl b List.mem_cons_self).1 (hl b List.mem_cons_self).2) (fun x hx => hl x (List.mem_cons_of_mem _ hx))
theorem crcL_append (c : Nat) (l m : List Int) : crcL c (l ++ m) = crcL (crcL c l) m := List.foldl_append
theorem rd_mem {l : List Int} {i : Nat} (h : i < l.length) : rd l (i : Int) = l[i] := by
  unfold rd
  rw [Int.toNat_natCast, List.getD_eq_getElem?_getD, List.getElem?_eq_getElem h]; rfl

theorem more_l1 (l : List Int) (n i : Int) (r : Int) : ∀ (j : Nat) (c : Nat), j ≤ 8 → c < 4294967296 → Ev (fun k => frame_more.l0 k ((steps j c : Nat) : Int) l n (wrap64 (i + 1))) r →
    Ev (fun k => frame_more.l1 k (c : Int) l n i ((8 - j : Nat) : Int)) r := by
  intro j
  induction j with
  | zero =>
    intro c _ _ h
    refine Ev.step (f := fun k => frame_more.l0 k (c : Int) l n (wrap64 (i + 1))) (fun k => ?_) h
    simp only [frame_more.l1]
    rw [if_neg (by omega)]
  | succ j ih =>
    intro c hj hc h
    have hw : wrap64 (((8 - (j + 1) : Nat) : Int) + 1) = ((8 - j : Nat) : Int) := by unfold wrap64; omega
    have hb : Go.bits .and .u32 (c : Int) 1 = ((c % 2 : Nat) : Int) := by
      rw [show (1 : Int) = ((1 : Nat) : Int) from rfl, u32_and_nat c 1 hc (by decide), nat_mask1]
    have hd : ((c : Int) / 2) = ((c / 2 : Nat) : Int) := by omega
    have hx : Go.bits .xor .u32 ((c / 2 : Nat) : Int) 2197175160 = (((c / 2) ^^^ 2197175160 : Nat) : Int) := by
      rw [show (2197175160 : Int) = ((2197175160 : Nat) : Int) from rfl, u32_xor_nat _ _ (by omega) (by decide)]
    refine Ev.step (f := fun k => frame_more.l1 k ((step1 c : Nat) : Int) l n i ((8 - j : Nat) : Int)) (fun k => ?_) (ih (step1 c) (by omega) (step1_lt hc) h)
    simp only [frame_more.l1]
    rw [if_pos (by omega), hb, hw, hd, hx]
    unfold step1
    by_cases e : c % 2 = 0
    · rw [if_pos (by omega), if_pos e]
    · rw [if_neg (by omega), if_neg e]
theorem more_l0 (l : List Int) (hl : ∀ x ∈ l, 0 ≤ x ∧ x ≤ 255) (hn : l.length ≤ 140737488351232) : ∀ (d i c : Nat), i + d = l.length → c < 4294967296 →
    Ev (fun k => frame_more.l0 k (c : Int) l (l.length : Int) (i : Int)) ((crcL c (l.drop i) : Nat) : Int) := by
  intro d
  induction d with
  | zero =>
    intro i c hi hc
    refine Ev.step (f := fun _ => some (c : Int)) (fun k => ?_) ?_
    · simp only [frame_more.l0]
      rw [if_neg (by omega)]
    · rw [List.drop_of_length_le (by omega)]
      exact Ev.now _
  | succ d ih =>
    intro i c hi hc
    have hlt : i < l.length := by omega
    have hm := hl l[i] (List.getElem_mem hlt)
    have hb : (l[i] % 4294967296) = ((l[i].toNat : Nat) : Int) := by omega
    have hx : Go.bits .xor .u32 (c : Int) ((l[i].toNat : Nat) : Int) = ((c ^^^ l[i].toNat : Nat) : Int) := u32_xor_nat _ _ hc (by omega)
    have hlt2 : c ^^^ l[i].toNat < 4294967296 := Nat.xor_lt_two_pow (n := 32) (by omega) (by omega)
    refine Ev.step (f := fun k => frame_more.l1 k ((c ^^^ l[i].toNat : Nat) : Int) l (l.length : Int) (i : Int) ((8 - 8 : Nat) : Int)) (fun k => ?_) ?_
    · simp only [frame_more.l0]
      rw [if_pos (by omega), if_pos (by omega), if_pos (by omega), rd_mem hlt, hb, hx]
      rfl
    · refine more_l1 l _ _ _ 8 _ (Nat.le_refl _) hlt2 ?_
      have h1 := ih (i + 1) (crcB c l[i]) (by omega) (crcB_lt hc hm.1 hm.2)
      have hw : wrap64 ((i : Int) + 1) = ((i + 1 : Nat) : Int) := by unfold wrap64; omega
      rw [hw, List.drop_eq_getElem_cons hlt]
      exact h1
theorem more_ev (l : List Int) (hl : ∀ x ∈ l, 0 ≤ x ∧ x ≤ 255) (hn : l.length ≤ 140737488351232) (c : Nat) (hc : c < 4294967296) :
    Ev (fun k => frame_more.f k (c : Int) l) ((crcL c l : Nat) : Int) := more_l0 l hl hn l.length 0 c (by omega) hc
def sumL (l : List Int) : Nat := crcL 4294967295 l ^^^ 4294967295
theorem sumL_lt {l : List Int} (hl : ∀ x ∈ l, 0 ≤ x ∧ x ≤ 255) : sumL l < 4294967296 :=
  Nat.xor_lt_two_pow (n := 32) (crcL_lt l (by decide) hl) (by decide)
theorem not32 {c : Nat} (h : c < 4294967296) : Go.bits .xor .u32 4294967295 (c : Int) = ((c ^^^ 4294967295 : Nat) : Int) := by
  rw [show (4294967295 : Int) = ((4294967295 : Nat) : Int) from rfl, u32_xor_nat _ _ (by decide) h, Nat.xor_comm]
theorem sum_ev (l : List Int) (hl : ∀ x ∈ l, 0 ≤ x ∧ x ≤ 255) (hn : l.length ≤ 140737488351232) : Ev (fun k => frame_Sum.f k l) ((sumL l : Nat) : Int) := by
  have h := more_ev l hl hn 4294967295 (by decide)
  unfold frame_Sum.f
  refine Ev.bind h ?_
  have hs := sumL_lt hl
  rw [not32 (crcL_lt l (by decide) hl), w64 (by omega) (by unfold sumL at hs; omega)]
  exact Ev.now _
theorem alive9_ev : Ev (fun k => lysimeterlaw9_alive.f k) true := by
  unfold lysimeterlaw9_alive.f
  have h0 := sum_ev [] (by simp) (by simp)
  rw [show ((sumL [] : Nat) : Int) = 0 from by decide +kernel] at h0
  have h9 := sum_ev lysimeterlaw9_alive.nine (by decide) (by decide)
  rw [show ((sumL lysimeterlaw9_alive.nine : Nat) : Int) = 3808858755 from by decide +kernel] at h9
  refine Ev.bind h0 (ev_if_pos rfl (Ev.bind h9 ?_))
  exact Ev.now _
/-! ### the reference's sum -/
theorem ref_l1 (l : List Int) (i : Int) (r : Int) : ∀ (j : Nat) (c : Nat), j ≤ 8 → c < 4294967296 → Ev (fun k => lysimeterref4_Sum.l0 k l ((steps j c : Nat) : Int) (wrap64 (i + 1))) r →
    Ev (fun k => lysimeterref4_Sum.l1 k l (c : Int) i ((8 - j : Nat) : Int)) r := by
  intro j
  induction j with
  | zero =>
    intro c _ _ h
    refine Ev.step (f := fun k => lysimeterref4_Sum.l0 k l (c : Int) (wrap64 (i + 1))) (fun k => ?_) h
    simp only [lysimeterref4_Sum.l1]
    rw [if_neg (by omega)]
  | succ j ih =>
    intro c hj hc h
    have hw : wrap64 (((8 - (j + 1) : Nat) : Int) + 1) = ((8 - j : Nat) : Int) := by unfold wrap64; omega
    have hb : Go.bits .and .u64 (c : Int) 1 = ((c % 2 : Nat) : Int) := by
      rw [show (1 : Int) = ((1 : Nat) : Int) from rfl, u64_and_nat c 1 (by omega) (by decide), nat_mask1]
    have hd : ((c : Int) / 2) = ((c / 2 : Nat) : Int) := by omega
    have hx : Go.bits .xor .u64 ((c / 2 : Nat) : Int) 2197175160 = (((c / 2) ^^^ 2197175160 : Nat) : Int) := by
      rw [show (2197175160 : Int) = ((2197175160 : Nat) : Int) from rfl, u64_xor_nat _ _ (by omega) (by decide)]
    refine Ev.step (f := fun k => lysimeterref4_Sum.l1 k l ((step1 c : Nat) : Int) i ((8 - j : Nat) : Int)) (fun k => ?_) (ih (step1 c) (by omega) (step1_lt hc) h)
    simp only [lysimeterref4_Sum.l1]
    rw [if_pos (by omega), hb, hw, hd, hx]
    unfold step1
    by_cases e : c % 2 = 0
    · rw [if_neg (by omega), if_pos e]
    · rw [if_pos (by omega), if_neg e]
theorem ref_l0 (l : List Int) (hl : ∀ x ∈ l, 0 ≤ x ∧ x ≤ 255) (hn : l.length ≤ 140737488351232) : ∀ (d i c : Nat), i + d = l.length → c < 4294967296 →
    Ev (fun k => lysimeterref4_Sum.l0 k l (c : Int) (i : Int)) ((crcL c (l.drop i) ^^^ 4294967295 : Nat) : Int) := by
  intro d
  induction d with
  | zero =>
    intro i c hi hc
    have hx : Go.bits .xor .u64 (c : Int) 4294967295 = ((c ^^^ 4294967295 : Nat) : Int) := by
      rw [show (4294967295 : Int) = ((4294967295 : Nat) : Int) from rfl, u64_xor_nat _ _ (by omega) (by decide)]
    have hlt : c ^^^ 4294967295 < 4294967296 := Nat.xor_lt_two_pow (n := 32) hc (by decide)
    refine Ev.step (f := fun _ => some ((c ^^^ 4294967295 : Nat) : Int)) (fun k => ?_) ?_
    · simp only [lysimeterref4_Sum.l0]
      rw [if_neg (by omega), hx, w64 (by omega) (by omega)]
    · rw [List.drop_of_length_le (by omega)]
      exact Ev.now _
  | succ d ih =>
    intro i c hi hc
    have hlt : i < l.length := by omega
    have hm := hl l[i] (List.getElem_mem hlt)
    have hb : IntKind.u64.wrap l[i] = ((l[i].toNat : Nat) : Int) := by rw [wu64]; omega
    have hx : Go.bits .xor .u64 (c : Int) ((l[i].toNat : Nat) : Int) = ((c ^^^ l[i].toNat : Nat) : Int) := u64_xor_nat _ _ (by omega) (by omega)
    have hlt2 : c ^^^ l[i].toNat < 4294967296 := Nat.xor_lt_two_pow (n := 32) (by omega) (by omega)
    refine Ev.step (f := fun k => lysimeterref4_Sum.l1 k l ((c ^^^ l[i].toNat : Nat) : Int) (i : Int) ((8 - 8 : Nat) : Int)) (fun k => ?_) ?_
    · simp only [lysimeterref4_Sum.l0]
      rw [if_pos (by omega), if_pos (by omega), rd_mem hlt, hb, hx]
      rfl
    · refine ref_l1 l _ _ 8 _ (Nat.le_refl _) hlt2 ?_
      have h1 := ih (i + 1) (crcB c l[i]) (by omega) (crcB_lt hc hm.1 hm.2)
      have hw : wrap64 ((i : Int) + 1) = ((i + 1 : Nat) : Int) := by unfold wrap64; omega
      rw [hw, List.drop_eq_getElem_cons hlt]
      exact h1
theorem refsum_ev (l : List Int) (hl : ∀ x ∈ l, 0 ≤ x ∧ x ≤ 255) (hn : l.length ≤ 140737488351232) : Ev (fun k => lysimeterref4_Sum.f k l) ((sumL l : Nat) : Int) :=
  ref_l0 l hl hn l.length 0 4294967295 (by omega) (by decide)
theorem FrameSums : lysimeterlaw9_FrameSums.Pure := by
  intro l hm hn hw
  have hl : ∀ x ∈ l, 0 ≤ x ∧ x ≤ 255 := fun x hx => wf_u8 (hw x hx)
  have hn' : l.length ≤ 140737488351232 := by omega
  refine Ev.rounds (r := true) (g := fun k => lysimeterlaw9_FrameSums.f k l) ?_
  unfold lysimeterlaw9_FrameSums.f
  refine Ev.bind alive9_ev (ev_if_pos rfl ?_)
  by_cases hb : (l.length : Int) > 10000
  · rw [decide_eq_true hb]
    refine Ev.step (f := fun _ => some true) (fun k => ?_) (Ev.now _)
    simp only [lysimeterlaw9_FrameSums.j0, if_true]
  · rw [decide_eq_false hb]
    refine Ev.step (f := fun k => (frame_Sum.f k l).bind fun t105 => ((lysimeterref4_Sum.f k l).bind fun t106 => (some (t105 == t106)))) (fun k => ?_) ?_
    · simp only [lysimeterlaw9_FrameSums.j0]
      rw [if_neg (by decide)]
    · refine Ev.bind (sum_ev l hl hn') (Ev.bind (refsum_ev l hl hn') ?_)
      rw [beq_self_eq_true]
      exact Ev.now _

end Go.Proofs.Ytjilnpbgclnecaa.Pure
