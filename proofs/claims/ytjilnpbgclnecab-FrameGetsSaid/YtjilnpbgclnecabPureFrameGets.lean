/- What the program's frame.Get and frame.All read of any bytes is what the reference reads (statement FrameGets); no condition. -/
import Derived.Test.YtjilnpbgclnecabPFrameGetsx6
import Derived.Test.YtjilnpbgclnecabXPure
set_option linter.unusedVariables false
set_option linter.unusedSimpArgs false
namespace Go.Proofs.Ytjilnpbgclnecab.Pure
open Go Go.RowKit Go.Proofs.Ytjilnpbgclnecab.PFrameGets Go.Proofs.Ytjilnpbgclnecab.XP Go.Proofs.YtjilnpbgclnecabW.PrintWords Go.Proofs.YtjilnpbgclnecabW.PrintLast Go.Proofs.YtjilnpbgclnecabW.PrintMore

/-! ### the sum -/
def step1 (c : Nat) : Nat := if c % 2 = 0 then c / 2 else (c / 2) ^^^ 2197175160
def steps : Nat → Nat → Nat
  | 0, c => c
  | n + 1, c => steps n (step1 c)
def crcB (c : Nat) (b : Int) : Nat := steps 8 (c ^^^ b.toNat)
def crcL (c : Nat) (l : List Int) : Nat := l.foldl crcB c
theorem step1_lt {c : Nat} (h : c < 4294967296) : step1 c < 4294967296 := by
  unfold step1
  split
  · omega
  · exact Nat.xor_lt_two_pow (n := 32) (by omega) (by omega)
theorem steps_lt (n : Nat) : ∀ {c : Nat}, c < 4294967296 → steps n c < 4294967296 := by
  induction n with
  | zero => intro c h; exact h
  | succ n ih => intro c h; exact ih (step1_lt h)
theorem crcB_lt {c : Nat} {b : Int} (h : c < 4294967296) (h0 : 0 ≤ b) (h1 : b ≤ 255) : crcB c b < 4294967296 :=
  steps_lt 8 (Nat.xor_lt_two_pow (n := 32) (by omega) (by omega))
theorem crcL_lt (l : List Int) : ∀ {c : Nat}, c < 4294967296 → (∀ x ∈ l, 0 ≤ x ∧ x ≤ 255) → crcL c l < 4294967296 := by
  induction l with
  | nil => intro c h _; exact h
  | cons b l ih =>
    intro c h hl
    exact ih (crcB_lt h (hl b List.mem_cons_self).1 (hl b List.mem_cons_self).2) (fun x hx => hl x (List.mem_cons_of_mem _ hx))
theorem crcL_append (c : Nat) (l m : List Int) : crcL c (l ++ m) = crcL (crcL c l) m := List.foldl_append
theorem rd_mem {l : List Int} {i : Nat} (h : i < l.length) : rd l (i : Int) = l[i] := by
  unfold rd
  rw [Int.toNat_natCast, List.getD_eq_getElem?_getD, List.getElem?_eq_getElem h]; rfl

theorem more_l1 (l : List Int) (n i : Int) (r : Int) : ∀ (j : Nat) (c : Nat), j ≤ 8 → c < 4294967296 → Ev (fun k => frame_more.l0 k ((steps j c : Nat) : Int) l n (wrap64 (i + 1))) r →
    Ev (fun k => frame_more.l1 k (c : Int) l n i ((8 - j : Nat) : Int)) r := by
  intro j
  induction j with
  | zero =>
    intro c _ _ h
    refine Ev.step (f := fun k => frame_more.l0 k (c : Int) l n (wrap64 (i + 1))) (fun k => ?_) h
    simp only [frame_more.l1]
    rw [if_neg (by omega)]
  | succ j ih =>
    intro c hj hc h
    have hw : wrap64 (((8 - (j + 1) : Nat) : Int) + 1) = ((8 - j : Nat) : Int) := by unfold wrap64; omega
    have hb : Go.bits .and .u32 (c : Int) 1 = ((c % 2 : Nat) : Int) := by
      rw [show (1 : Int) = ((1 : Nat) : Int) from rfl, u32_and_nat c 1 hc (by decide), nat_mask1]
    have hd : ((c : Int) / 2) = ((c / 2 : Nat) : Int) := by omega
    have hx : Go.bits .xor .u32 ((c / 2 : Nat) : Int) 2197175160 = (((c / 2) ^^^ 2197175160 : Nat) : Int) := by
      rw [show (2197175160 : Int) = ((2197175160 : Nat) : Int) from rfl, u32_xor_nat _ _ (by omega) (by decide)]
    refine Ev.step (f := fun k => frame_more.l1 k ((step1 c : Nat) : Int) l n i ((8 - j : Nat) : Int)) (fun k => ?_) (ih (step1 c) (by omega) (step1_lt hc) h)
    simp only [frame_more.l1]
    rw [if_pos (by omega), hb, hw, hd, hx]
    unfold step1
    by_cases e : c % 2 = 0
    · rw [if_pos (by omega), if_pos e]
    · rw [if_neg (by omega), if_neg e]
theorem more_l0 (l : List Int) (hl : ∀ x ∈ l, 0 ≤ x ∧ x ≤ 255) (hn : l.length ≤ 140737488351232) : ∀ (d i c : Nat), i + d = l.length → c < 4294967296 →
    Ev (fun k => frame_more.l0 k (c : Int) l (l.length : Int) (i : Int)) ((crcL c (l.drop i) : Nat) : Int) := by
  intro d
  induction d with
  | zero =>
    intro i c hi hc
    refine Ev.step (f := fun _ => some (c : Int)) (fun k => ?_) ?_
    · simp only [frame_more.l0]
      rw [if_neg (by omega)]
    · rw [List.drop_of_length_le (by omega)]
      exact Ev.now _
  | succ d ih =>
    intro i c hi hc
    have hlt : i < l.length := by omega
    have hm := hl l[i] (List.getElem_mem hlt)
    have hb : (l[i] % 4294967296) = ((l[i].toNat : Nat) : Int) := by omega
    have hx : Go.bits .xor .u32 (c : Int) ((l[i].toNat : Nat) : Int) = ((c ^^^ l[i].toNat : Nat) : Int) := u32_xor_nat _ _ hc (by omega)
    have hlt2 : c ^^^ l[i].toNat < 4294967296 := Nat.xor_lt_two_pow (n := 32) (by omega) (by omega)
    refine Ev.step (f := fun k => frame_more.l1 k ((c ^^^ l[i].toNat : Nat) : Int) l (l.length : Int) (i : Int) ((8 - 8 : Nat) : Int)) (fun k => ?_) ?_
    · simp only [frame_more.l0]
      rw [if_pos (by omega), if_pos (by omega), if_pos (by omega), rd_mem hlt, hb, hx]
      rfl
    · refine more_l1 l _ _ _ 8 _ (Nat.le_refl _) hlt2 ?_
      have h1 := ih (i + 1) (crcB c l[i]) (by omega) (crcB_lt hc hm.1 hm.2)
      have hw : wrap64 ((i : Int) + 1) = ((i + 1 : Nat) : Int) := by unfold wrap64; omega
      rw [hw, List.drop_eq_getElem_cons hlt]
      exact h1
theorem more_ev (l : List Int) (hl : ∀ x ∈ l, 0 ≤ x ∧ x ≤ 255) (hn : l.length ≤ 140737488351232) (c : Nat) (hc : c < 4294967296) :
    Ev (fun k => frame_more.f k (c : Int) l) ((crcL c l : Nat) : Int) := more_l0 l hl hn l.length 0 c (by omega) hc
def sumL (l : List Int) : Nat := crcL 4294967295 l ^^^ 4294967295
theorem sumL_lt {l : List Int} (hl : ∀ x ∈ l, 0 ≤ x ∧ x ≤ 255) : sumL l < 4294967296 :=
  Nat.xor_lt_two_pow (n := 32) (crcL_lt l (by decide) hl) (by decide)
theorem not32 {c : Nat} (h : c < 4294967296) : Go.bits .xor .u32 4294967295 (c : Int) = ((c ^^^ 4294967295 : Nat) : Int) := by
  rw [show (4294967295 : Int) = ((4294967295 : Nat) : Int) from rfl, u32_xor_nat _ _ (by decide) h, Nat.xor_comm]
theorem sum_ev (l : List Int) (hl : ∀ x ∈ l, 0 ≤ x ∧ x ≤ 255) (hn : l.length ≤ 140737488351232) : Ev (fun k => frame_Sum.f k l) ((sumL l : Nat) : Int) := by
  have h := more_ev l hl hn 4294967295 (by decide)
  unfold frame_Sum.f
  refine Ev.bind h ?_
  have hs := sumL_lt hl
  rw [not32 (crcL_lt l (by decide) hl), w64 (by omega) (by unfold sumL at hs; omega)]
  exact Ev.now _
theorem alive9_ev : Ev (fun k => lysimeterlaw9_alive.f k) true := by
  unfold lysimeterlaw9_alive.f
  have h0 := sum_ev [] (by simp) (by simp)
  rw [show ((sumL [] : Nat) : Int) = 0 from by decide +kernel] at h0
  have h9 := sum_ev lysimeterlaw9_alive.nine (by decide) (by decide)
  rw [show ((sumL lysimeterlaw9_alive.nine : Nat) : Int) = 3808858755 from by decide +kernel] at h9
  refine Ev.bind h0 (ev_if_pos rfl (Ev.bind h9 ?_))
  exact Ev.now _
/-! ### frames -/
def four (n : Nat) : List Int := [((n % 256 : Nat) : Int), ((n / 256 % 256 : Nat) : Int), ((n / 65536 % 256 : Nat) : Int), ((n / 16777216 % 256 : Nat) : Int)]
theorem four_len (n : Nat) : (four n).length = 4 := rfl
theorem four_range (n : Nat) : ∀ x ∈ four n, 0 ≤ x ∧ x ≤ 255 := by
  intro x hx
  simp only [four, List.mem_cons, List.not_mem_nil, or_false] at hx
  omega
def num4 (l : List Int) : Nat := (rd l 0).toNat + (rd l 1).toNat * 256 + (rd l 2).toNat * 65536 + (rd l 3).toNat * 16777216
theorem num4_four {n : Nat} (h : n < 4294967296) : num4 (four n) = n := by
  unfold num4 four rd
  simp
  omega
def hd (kind : Int) (b : List Int) : List Int := kind :: four b.length
def fput (kind : Int) (b : List Int) : List Int := hd kind b ++ four (sumL (hd kind b ++ b)) ++ b
theorem hd_len (kind : Int) (b : List Int) : (hd kind b).length = 5 := rfl
theorem fput_len (kind : Int) (b : List Int) : (fput kind b).length = 9 + b.length := by
  unfold fput
  rw [List.length_append, List.length_append, hd_len, four_len]
theorem hd_range {kind : Int} (b : List Int) (h0 : 0 ≤ kind) (h1 : kind ≤ 255) : ∀ x ∈ hd kind b, 0 ≤ x ∧ x ≤ 255 := by
  intro x hx
  rcases List.mem_cons.1 hx with rfl | hx
  · exact ⟨h0, h1⟩
  · exact four_range _ x hx
theorem fput_range {kind : Int} {b : List Int} (h0 : 0 ≤ kind) (h1 : kind ≤ 255) (hb : ∀ x ∈ b, 0 ≤ x ∧ x ≤ 255) : ∀ x ∈ fput kind b, 0 ≤ x ∧ x ≤ 255 := by
  intro x hx
  rcases List.mem_append.1 hx with hx | hx
  · rcases List.mem_append.1 hx with hx | hx
    · exact hd_range b h0 h1 x hx
    · exact four_range _ x hx
  · exact hb x hx
theorem num9_ev (n : Int) : lysimeterlaw9_num.f n = some n := rfl
theorem rd_range {l : List Int} (hl : ∀ x ∈ l, 0 ≤ x ∧ x ≤ 255) (i : Int) : 0 ≤ rd l i ∧ rd l i ≤ 255 := by
  unfold rd
  rw [List.getD_eq_getElem?_getD]
  rcases Nat.lt_or_ge i.toNat l.length with h | h
  · rw [List.getElem?_eq_getElem h]
    exact hl _ (List.getElem_mem h)
  · rw [List.getElem?_eq_none h]
    simp
theorem or_i64 {a b : Nat} (k : Nat) (hk : k ≤ 63) (hb : b % 2 ^ k = 0) (ha : a < 2 ^ k) (hs : a + b < 9223372036854775808) : Go.bits .or .i64 (a : Int) (b : Int) = ((a + b : Nat) : Int) := by
  show IntKind.i64.wrap ((BitVec.ofInt 64 (a : Int) ||| BitVec.ofInt 64 (b : Int)).toNat : Int) = _
  rw [BitVec.toNat_or, BitVec.ofInt_natCast, BitVec.ofInt_natCast, BitVec.toNat_ofNat, BitVec.toNat_ofNat, Nat.mod_eq_of_lt (by omega), Nat.mod_eq_of_lt (by omega), Nat.or_comm, nat_join k b a hb ha, IntKind.wrap_i64]
  omega
theorem number_ev {l : List Int} (hl : ∀ x ∈ l, 0 ≤ x ∧ x ≤ 255) (hn : 4 ≤ l.length) : frame_number.f l = some ((num4 l : Nat) : Int) := by
  have r0 := rd_range hl 0
  have r1 := rd_range hl 1
  have r2 := rd_range hl 2
  have r3 := rd_range hl 3
  unfold frame_number.f num4
  rw [if_pos (by omega), if_pos (by omega), if_pos (by omega), if_pos (by omega)]
  generalize rd l 0 = a at *
  generalize rd l 1 = b at *
  generalize rd l 2 = c at *
  generalize rd l 3 = d at *
  obtain ⟨a, rfl⟩ := Int.eq_ofNat_of_zero_le r0.1
  obtain ⟨b, rfl⟩ := Int.eq_ofNat_of_zero_le r1.1
  obtain ⟨c, rfl⟩ := Int.eq_ofNat_of_zero_le r2.1
  obtain ⟨d, rfl⟩ := Int.eq_ofNat_of_zero_le r3.1
  simp only [Int.toNat_natCast]
  rw [w64 (x := (a : Int)) (by omega) (by omega), w64 (x := (b : Int)) (by omega) (by omega), w64 (x := (c : Int)) (by omega) (by omega), w64 (x := (d : Int)) (by omega) (by omega)]
  have e1 : wrap64 ((b : Int) * 256) = ((b * 256 : Nat) : Int) := by rw [w64 (by omega) (by omega)]; omega
  have e2 : wrap64 ((c : Int) * 65536) = ((c * 65536 : Nat) : Int) := by rw [w64 (by omega) (by omega)]; omega
  have e3 : wrap64 ((d : Int) * 16777216) = ((d * 16777216 : Nat) : Int) := by rw [w64 (by omega) (by omega)]; omega
  rw [e1, e2, e3, or_i64 8 (by decide) (by omega) (by omega) (by omega), or_i64 16 (by decide) (by omega) (by omega) (by omega), or_i64 24 (by decide) (by omega) (by omega) (by omega)]
def pay (l : List Int) : Nat := num4 ((l.take 5).drop 1)
def fsum (l : List Int) : Nat := sumL (l.take 5 ++ (l.take (9 + pay l)).drop 9)
def fgood (l : List Int) : Prop := 9 ≤ l.length ∧ pay l ≤ 1048576 ∧ 9 + pay l ≤ l.length ∧ fsum l = num4 ((l.take 9).drop 5)
theorem clone_byte {l : List Int} (h : l.length < 140737488355328) : slices_Clone_byte_byte.f l = some l := by
  unfold slices_Clone_byte_byte.f
  rw [if_pos]
  omega
/-- Frame.Get up to its sums: n is the payload's length. -/
theorem get_j0 (l : List Int) (hl : ∀ x ∈ l, 0 ≤ x ∧ x ≤ 255) (hn : l.length ≤ 140737488351232) (n : Nat) (h9 : 9 + n ≤ l.length) (r : Int × List Int × Int × Int)
    (hr : r = if sumL (l.take 5 ++ (l.take (9 + n)).drop 9) = num4 ((l.take 9).drop 5) then (rd l 0, (l.take (9 + n)).drop 9, ((9 + n : Nat) : Int), 0) else (0, [], 0, 5)) :
    Ev (fun k => frame_Get.j0 k l (n : Int) false) r := by
  have hsub : ∀ (a b : Nat), ∀ x ∈ (l.take a).drop b, 0 ≤ x ∧ x ≤ 255 := fun a b x hx => hl x (List.mem_of_mem_take (List.mem_of_mem_drop hx))
  have h9w : wrap64 (9 + (n : Int)) = ((9 + n : Nat) : Int) := by rw [w64 (by omega) (by omega)]; omega
  have a1 : (5 : Int) ≤ (l.length : Int) := by omega
  have a2 : (9 : Int) ≤ ((9 + n : Nat) : Int) := by omega
  have a3 : ((9 + n : Nat) : Int) ≤ (l.length : Int) := by omega
  have a4 : (9 : Int) ≤ (l.length : Int) := by omega
  have a5 : (0 : Int) < (l.length : Int) := by omega
  have a6 : (l.take 5).length ≤ 140737488351232 := by rw [List.length_take]; omega
  have a7 : ((l.take (9 + n)).drop 9).length ≤ 140737488351232 := by rw [List.length_drop, List.length_take]; omega
  have a8 : ((l.take (9 + n)).drop 9).length < 140737488355328 := by omega
  have a9 := rd_range hl 0
  have b0 : wrap64 (rd l 0) = rd l 0 := w64 (by omega) (by omega)
  have nev := number_ev (hsub 9 5) (by rw [List.length_drop, List.length_take]; omega)
  have m1 := more_ev (l.take 5) (fun x hx => hl x (List.mem_of_mem_take hx)) a6 4294967295 (by decide)
  have c1 := crcL_lt (c := 4294967295) (l.take 5) (by decide) (fun x hx => hl x (List.mem_of_mem_take hx))
  have m2 := more_ev ((l.take (9 + n)).drop 9) (hsub _ _) a7 _ c1
  have c2 := crcL_lt (c := crcL 4294967295 (l.take 5)) ((l.take (9 + n)).drop 9) c1 (hsub _ _)
  have hsum : crcL (crcL 4294967295 (l.take 5)) ((l.take (9 + n)).drop 9) ^^^ 4294967295 = sumL (l.take 5 ++ (l.take (9 + n)).drop 9) := by unfold sumL; rw [crcL_append]
  have hlt : sumL (l.take 5 ++ (l.take (9 + n)).drop 9) < 4294967296 := sumL_lt (fun x hx => (List.mem_append.1 hx).elim (fun h => hl x (List.mem_of_mem_take h)) (hsub _ _ x))
  refine Ev.step (f := fun k => (if 5 ≤ (l.length : Int) then ((frame_more.f k 4294967295 (l.take 5)).bind fun t133 => (if 9 ≤ (wrap64 (9 + (n : Int))) then (if (wrap64 (9 + (n : Int))) ≤ (l.length : Int) then ((frame_more.f k t133 ((l.take ((wrap64 (9 + (n : Int))) : Int).toNat).drop 9)).bind fun t135 => (if 5 ≤ 9 then (if 9 ≤ (l.length : Int) then ((frame_number.f ((l.take 9).drop 5)).bind fun t137 => (if (wrap64 (Go.bits .xor .u32 4294967295 t135)) = t137 then (if 0 < (l.length : Int) then ((slices_Clone_byte_byte.f ((l.take ((wrap64 (9 + (n : Int))) : Int).toNat).drop 9)).bind fun t140 => (some (wrap64 (rd l 0), t140, wrap64 (9 + (n : Int)), 0))) else (none)) else (some (0, ([] : List Int), 0, 5)))) else (none)) else (none))) else (none)) else (none))) else (none))) (fun k => ?_) ?_
  · simp only [frame_Get.j0]
    rw [if_neg (by decide)]
  · refine ev_if_pos a1 (Ev.bind m1 ?_)
    rw [h9w, Int.toNat_natCast]
    refine ev_if_pos a2 (ev_if_pos a3 (Ev.bind m2 (ev_if_pos (by decide) (ev_if_pos a4 (ev_one_bind nev ?_)))))
    rw [not32 c2, hsum, w64n hlt]
    subst hr
    clear hsum m1 m2 c1 c2 nev
    generalize sumL (l.take 5 ++ (l.take (9 + n)).drop 9) = s at *
    generalize num4 ((l.take 9).drop 5) = t at *
    by_cases hs : s = t
    · rw [if_pos hs]
      refine ev_if_pos (by rw [hs]) (ev_if_pos a5 ?_)
      rw [b0]
      exact ev_one_bind (clone_byte a8) (Ev.now _)
    · rw [if_neg hs]
      exact ev_if_neg (fun h => hs (Int.ofNat.inj h)) (Ev.now _)
def fget (l : List Int) : Int × List Int × Int × Int :=
  if l.length < 9 then (0, [], 0, 5) else if pay l > 1048576 then (0, [], 0, 5) else if 9 + pay l > l.length then (0, [], 0, 5)
  else if sumL (l.take 5 ++ (l.take (9 + pay l)).drop 9) = num4 ((l.take 9).drop 5) then (rd l 0, (l.take (9 + pay l)).drop 9, ((9 + pay l : Nat) : Int), 0) else (0, [], 0, 5)
theorem get_ev (l : List Int) (hl : ∀ x ∈ l, 0 ≤ x ∧ x ≤ 255) (hn : l.length ≤ 140737488351232) : Ev (fun k => frame_Get.f k l) (fget l) := by
  unfold frame_Get.f fget
  by_cases h9 : l.length < 9
  · rw [if_pos h9]
    exact ev_if_pos (by omega) (Ev.now _)
  rw [if_neg h9]
  refine ev_if_neg (by omega) (ev_if_pos (by decide) (ev_if_pos (by omega) ?_))
  have hsub : ∀ (a b : Nat), ∀ x ∈ (l.take a).drop b, 0 ≤ x ∧ x ≤ 255 := fun a b x hx => hl x (List.mem_of_mem_take (List.mem_of_mem_drop hx))
  refine ev_one_bind (number_ev (hsub 5 1) (by rw [List.length_drop, List.length_take]; omega)) ?_
  have hpay : num4 ((l.take 5).drop 1) = pay l := rfl
  rw [hpay]
  have jt : ∀ p : Int, Ev (fun k => frame_Get.j0 k l p true) (0, [], 0, 5) := by
    intro p
    refine Ev.step (f := fun _ => some (0, [], 0, 5)) (fun k => ?_) (Ev.now _)
    simp only [frame_Get.j0, if_true]
  have hw : wrap64 ((l.length : Int) - 9) = (l.length : Int) - 9 := w64 (by omega) (by omega)
  by_cases hp : pay l > 1048576
  · rw [if_pos hp]
    exact ev_if_pos (by omega) (jt _)
  rw [if_neg hp]
  refine ev_if_neg (by omega) ?_
  rw [hw]
  by_cases hq : 9 + pay l > l.length
  · rw [if_pos hq, decide_eq_true (by omega)]
    exact jt _
  · rw [if_neg hq, decide_eq_false (by omega)]
    exact get_j0 l hl hn _ (by omega) _ rfl
/-! ### the reference's sum -/
theorem ref_l1 (l : List Int) (i : Int) (r : Int) : ∀ (j : Nat) (c : Nat), j ≤ 8 → c < 4294967296 → Ev (fun k => lysimeterref4_Sum.l0 k l ((steps j c : Nat) : Int) (wrap64 (i + 1))) r →
    Ev (fun k => lysimeterref4_Sum.l1 k l (c : Int) i ((8 - j : Nat) : Int)) r := by
  intro j
  induction j with
  | zero =>
    intro c _ _ h
    refine Ev.step (f := fun k => lysimeterref4_Sum.l0 k l (c : Int) (wrap64 (i + 1))) (fun k => ?_) h
    simp only [lysimeterref4_Sum.l1]
    rw [if_neg (by omega)]
  | succ j ih =>
    intro c hj hc h
    have hw : wrap64 (((8 - (j + 1) : Nat) : Int) + 1) = ((8 - j : Nat) : Int) := by unfold wrap64; omega
    have hb : Go.bits .and .u64 (c : Int) 1 = ((c % 2 : Nat) : Int) := by
      rw [show (1 : Int) = ((1 : Nat) : Int) from rfl, u64_and_nat c 1 (by omega) (by decide), nat_mask1]
    have hd : ((c : Int) / 2) = ((c / 2 : Nat) : Int) := by omega
    have hx : Go.bits .xor .u64 ((c / 2 : Nat) : Int) 2197175160 = (((c / 2) ^^^ 2197175160 : Nat) : Int) := by
      rw [show (2197175160 : Int) = ((2197175160 : Nat) : Int) from rfl, u64_xor_nat _ _ (by omega) (by decide)]
    refine Ev.step (f := fun k => lysimeterref4_Sum.l1 k l ((step1 c : Nat) : Int) i ((8 - j : Nat) : Int)) (fun k => ?_) (ih (step1 c) (by omega) (step1_lt hc) h)
    simp only [lysimeterref4_Sum.l1]
    rw [if_pos (by omega), hb, hw, hd, hx]
    unfold step1
    by_cases e : c % 2 = 0
    · rw [if_neg (by omega), if_pos e]
    · rw [if_pos (by omega), if_neg e]
theorem ref_l0 (l : List Int) (hl : ∀ x ∈ l, 0 ≤ x ∧ x ≤ 255) (hn : l.length ≤ 140737488351232) : ∀ (d i c : Nat), i + d = l.length → c < 4294967296 →
    Ev (fun k => lysimeterref4_Sum.l0 k l (c : Int) (i : Int)) ((crcL c (l.drop i) ^^^ 4294967295 : Nat) : Int) := by
  intro d
  induction d with
  | zero =>
    intro i c hi hc
    have hx : Go.bits .xor .u64 (c : Int) 4294967295 = ((c ^^^ 4294967295 : Nat) : Int) := by
      rw [show (4294967295 : Int) = ((4294967295 : Nat) : Int) from rfl, u64_xor_nat _ _ (by omega) (by decide)]
    have hlt : c ^^^ 4294967295 < 4294967296 := Nat.xor_lt_two_pow (n := 32) hc (by decide)
    refine Ev.step (f := fun _ => some ((c ^^^ 4294967295 : Nat) : Int)) (fun k => ?_) ?_
    · simp only [lysimeterref4_Sum.l0]
      rw [if_neg (by omega), hx, w64 (by omega) (by omega)]
    · rw [List.drop_of_length_le (by omega)]
      exact Ev.now _
  | succ d ih =>
    intro i c hi hc
    have hlt : i < l.length := by omega
    have hm := hl l[i] (List.getElem_mem hlt)
    have hb : IntKind.u64.wrap l[i] = ((l[i].toNat : Nat) : Int) := by rw [wu64]; omega
    have hx : Go.bits .xor .u64 (c : Int) ((l[i].toNat : Nat) : Int) = ((c ^^^ l[i].toNat : Nat) : Int) := u64_xor_nat _ _ (by omega) (by omega)
    have hlt2 : c ^^^ l[i].toNat < 4294967296 := Nat.xor_lt_two_pow (n := 32) (by omega) (by omega)
    refine Ev.step (f := fun k => lysimeterref4_Sum.l1 k l ((c ^^^ l[i].toNat : Nat) : Int) (i : Int) ((8 - 8 : Nat) : Int)) (fun k => ?_) ?_
    · simp only [lysimeterref4_Sum.l0]
      rw [if_pos (by omega), if_pos (by omega), rd_mem hlt, hb, hx]
      rfl
    · refine ref_l1 l _ _ 8 _ (Nat.le_refl _) hlt2 ?_
      have h1 := ih (i + 1) (crcB c l[i]) (by omega) (crcB_lt hc hm.1 hm.2)
      have hw : wrap64 ((i : Int) + 1) = ((i + 1 : Nat) : Int) := by unfold wrap64; omega
      rw [hw, List.drop_eq_getElem_cons hlt]
      exact h1
theorem refsum_ev (l : List Int) (hl : ∀ x ∈ l, 0 ≤ x ∧ x ≤ 255) (hn : l.length ≤ 140737488351232) : Ev (fun k => lysimeterref4_Sum.f k l) ((sumL l : Nat) : Int) :=
  ref_l0 l hl hn l.length 0 4294967295 (by omega) (by decide)
theorem and255_i64 (n : Nat) (h : n < 9223372036854775808) : Go.bits .and .i64 (n : Int) 255 % 256 = ((n % 256 : Nat) : Int) := by
  have := and_mask_i64 (a := (n : Int)) 8 (by decide) (by omega) (by omega)
  rw [show ((2 ^ 8 - 1 : Nat) : Int) = 255 from by decide, Int.toNat_natCast, show (2 : Nat) ^ 8 = 256 from rfl] at this
  rw [this]
  omega
theorem reffour_ev {n : Nat} (h : n < 4294967296) : lysimeterref4_Four.f (n : Int) = some (four n) := by
  unfold lysimeterref4_Four.f four
  have e2 : ((n : Int) / 256) = ((n / 256 : Nat) : Int) := by omega
  have e3 : ((n : Int) / 65536) = ((n / 65536 : Nat) : Int) := by omega
  have e4 : ((n : Int) / 16777216) = ((n / 16777216 : Nat) : Int) := by omega
  rw [e2, e3, e4, and255_i64 _ (by omega), and255_i64 _ (by omega), and255_i64 _ (by omega), and255_i64 _ (by omega)]
theorem refframe_ev (kind : Int) (b : List Int) (h0 : 0 ≤ kind) (h1 : kind ≤ 255) (hb : ∀ x ∈ b, 0 ≤ x ∧ x ≤ 255) (hn : b.length ≤ 1048576) : Ev (fun k => lysimeterref4_Frame.f k kind b) (fput kind b, 0) := by
  have e0 : ([kind % 256] : List Int) ++ four b.length = hd kind b := by rw [show kind % 256 = kind from by omega]; rfl
  have hh := hd_range b h0 h1
  have hr : ∀ x ∈ hd kind b ++ b, 0 ≤ x ∧ x ≤ 255 := fun x hx => (List.mem_append.1 hx).elim (hh x) (hb x)
  have hs := refsum_ev (hd kind b ++ b) hr (by rw [List.length_append, hd_len]; omega)
  have hlt : sumL (hd kind b ++ b) < 4294967296 := sumL_lt hr
  have a1 : ¬ (b.length : Int) > 1048576 := by omega
  have a2 : (hd kind b).length + b.length < 140737488355328 := by rw [hd_len]; omega
  have a3 : (hd kind b ++ four (sumL (hd kind b ++ b))).length + b.length < 140737488355328 := by rw [List.length_append, hd_len, four_len]; omega
  have f1 := reffour_ev (n := b.length) (by omega)
  unfold lysimeterref4_Frame.f
  refine ev_if_neg (by clear hs hlt; omega) ?_
  rw [decide_eq_false (by clear hs hlt; omega)]
  refine Ev.step (f := fun k => (if (b.length : Int) > 1048576 then (some (([] : List Int), 2)) else ((some (([(kind) % 256] : List Int) : List Int)).bind fun y130 => ((lysimeterref4_Four.f (b.length : Int)).bind fun t133 => (if y130.length + t133.length < 140737488355328 then ((some (y130 ++ t133 : List Int)).bind fun y136 => (if ([] : List Int).length + y136.length < 140737488355328 then ((some (([] : List Int) ++ y136 : List Int)).bind fun y139 => (if y139.length + b.length < 140737488355328 then ((lysimeterref4_Sum.f k (y139 ++ b)).bind fun t145 => ((lysimeterref4_Four.f t145).bind fun t146 => (if y136.length + t146.length < 140737488355328 then ((some (y136 ++ t146 : List Int)).bind fun y149 => (if y149.length + b.length < 140737488355328 then (some ((y149 ++ b), 0)) else (none))) else (none)))) else (none))) else (none))) else (none)))))) (fun k => ?_) ?_
  · simp only [lysimeterref4_Frame.j0]
    rw [if_neg (by decide)]
  · refine ev_if_neg a1 (ev_some_bind (ev_one_bind f1 (ev_if_pos (by rw [four_len, List.length_singleton]; decide) (ev_some_bind ?_))))
    rw [e0]
    refine ev_if_pos (by rw [hd_len]; decide) (ev_some_bind (ev_if_pos a2 ?_))
    rw [List.nil_append]
    exact Ev.bind hs (ev_one_bind (reffour_ev hlt) (ev_if_pos (by rw [four_len, hd_len]; decide) (ev_some_bind (ev_if_pos a3 (Ev.now _)))))
theorem or4_ev {a b c d : Int} (ra : 0 ≤ a ∧ a ≤ 255) (rb : 0 ≤ b ∧ b ≤ 255) (rc : 0 ≤ c ∧ c ≤ 255) (rd' : 0 ≤ d ∧ d ≤ 255) :
    Go.bits .or .i64 (Go.bits .or .i64 (Go.bits .or .i64 (wrap64 a) (wrap64 ((wrap64 b) * 256))) (wrap64 ((wrap64 c) * 65536))) (wrap64 ((wrap64 d) * 16777216)) = ((a.toNat + b.toNat * 256 + c.toNat * 65536 + d.toNat * 16777216 : Nat) : Int) := by
  obtain ⟨a, rfl⟩ := Int.eq_ofNat_of_zero_le ra.1
  obtain ⟨b, rfl⟩ := Int.eq_ofNat_of_zero_le rb.1
  obtain ⟨c, rfl⟩ := Int.eq_ofNat_of_zero_le rc.1
  obtain ⟨d, rfl⟩ := Int.eq_ofNat_of_zero_le rd'.1
  simp only [Int.toNat_natCast]
  rw [w64 (x := (a : Int)) (by omega) (by omega), w64 (x := (b : Int)) (by omega) (by omega), w64 (x := (c : Int)) (by omega) (by omega), w64 (x := (d : Int)) (by omega) (by omega)]
  have e1 : wrap64 ((b : Int) * 256) = ((b * 256 : Nat) : Int) := by rw [w64 (by omega) (by omega)]; omega
  have e2 : wrap64 ((c : Int) * 65536) = ((c * 65536 : Nat) : Int) := by rw [w64 (by omega) (by omega)]; omega
  have e3 : wrap64 ((d : Int) * 16777216) = ((d * 16777216 : Nat) : Int) := by rw [w64 (by omega) (by omega)]; omega
  rw [e1, e2, e3, or_i64 8 (by decide) (by omega) (by omega) (by omega), or_i64 16 (by decide) (by omega) (by omega) (by omega), or_i64 24 (by decide) (by omega) (by omega) (by omega)]
theorem rd_sub {l : List Int} {a b : Nat} (i : Nat) (h : b + i < a) : rd ((l.take a).drop b) (i : Int) = rd l ((b + i : Nat) : Int) := by
  unfold rd
  rw [Int.toNat_natCast, Int.toNat_natCast, List.getD_eq_getElem?_getD, List.getD_eq_getElem?_getD, List.getElem?_drop, List.getElem?_take_of_lt h]
theorem pay_or {l : List Int} (hl : ∀ x ∈ l, 0 ≤ x ∧ x ≤ 255) :
    Go.bits .or .i64 (Go.bits .or .i64 (Go.bits .or .i64 (wrap64 (rd l 1)) (wrap64 ((wrap64 (rd l 2)) * 256))) (wrap64 ((wrap64 (rd l 3)) * 65536))) (wrap64 ((wrap64 (rd l 4)) * 16777216)) = ((pay l : Nat) : Int) := by
  rw [or4_ev (rd_range hl 1) (rd_range hl 2) (rd_range hl 3) (rd_range hl 4)]
  have h0 := rd_sub (l := l) (a := 5) (b := 1) 0 (by decide)
  have h1 := rd_sub (l := l) (a := 5) (b := 1) 1 (by decide)
  have h2 := rd_sub (l := l) (a := 5) (b := 1) 2 (by decide)
  have h3 := rd_sub (l := l) (a := 5) (b := 1) 3 (by decide)
  unfold pay num4
  rw [show (0 : Int) = ((0 : Nat) : Int) from rfl, show (1 : Int) = ((1 : Nat) : Int) from rfl, show (2 : Int) = ((2 : Nat) : Int) from rfl, show (3 : Int) = ((3 : Nat) : Int) from rfl, h0, h1, h2, h3]
  rfl
theorem four_num4 {q : List Int} (hq : q.length = 4) (hr : ∀ z ∈ q, 0 ≤ z ∧ z ≤ 255) : four (num4 q) = q := by
  match q, hq with
  | [a, b, c, d], _ =>
    have ha := hr a (by simp)
    have hb := hr b (by simp)
    have hc := hr c (by simp)
    have hd := hr d (by simp)
    simp [num4, four, rd]
    omega
theorem take5 {l : List Int} (h : 9 ≤ l.length) : l.take 5 = rd l 0 :: (l.take 5).drop 1 := by
  match l, h with
  | a :: l, _ => rfl
theorem strs_eq {a b : List Int} (ha : ∀ x ∈ a, 0 ≤ x ∧ x ≤ 255) (hb : ∀ x ∈ b, 0 ≤ x ∧ x ≤ 255) (h : (strOfNums a).toList = (strOfNums b).toList) : a = b := by
  rw [ByteArray.toList_eq, ByteArray.toList_eq, strOfNums_data, strOfNums_data] at h
  have back : ∀ l : List Int, (∀ x ∈ l, 0 ≤ x ∧ x ≤ 255) → (l.map fun n => UInt8.ofNat n.toNat).map (fun u => (u.toNat : Int)) = l := by
    intro l hl
    rw [List.map_map]
    refine (List.map_congr_left (g := id) fun x hx => ?_).trans (List.map_id l)
    have := hl x hx
    simp
    omega
  rw [← back a ha, ← back b hb, h]
theorem readframe_ev (l : List Int) (hl : ∀ x ∈ l, 0 ≤ x ∧ x ≤ 255) (hn : l.length ≤ 140737488351232) : Ev (fun k => lysimeterref4_ReadFrame.f k l) (fget l) := by
  unfold lysimeterref4_ReadFrame.f fget
  by_cases h9 : l.length < 9
  · rw [if_pos h9]
    exact ev_if_pos (by omega) (Ev.now _)
  rw [if_neg h9, pay_or hl]
  refine ev_if_neg (by omega) (ev_if_pos (by omega) (ev_if_pos (by omega) (ev_if_pos (by omega) (ev_if_pos (by omega) ?_))))
  have jt : ∀ p : Int, Ev (fun k => lysimeterref4_ReadFrame.j0 k l p true) (0, [], 0, 5) := by
    intro p
    refine Ev.step (f := fun _ => some (0, [], 0, 5)) (fun k => ?_) (Ev.now _)
    simp only [lysimeterref4_ReadFrame.j0, if_true]
  have hw : wrap64 ((l.length : Int) - 9) = (l.length : Int) - 9 := w64 (by omega) (by omega)
  by_cases hp : pay l > 1048576
  · rw [if_pos hp]
    exact ev_if_pos (by omega) (jt _)
  rw [if_neg hp]
  refine ev_if_neg (by omega) ?_
  rw [hw]
  by_cases hq : 9 + pay l > l.length
  · rw [if_pos hq, decide_eq_true (by omega)]
    exact jt _
  rw [if_neg hq, decide_eq_false (by omega)]
  have h9w : wrap64 (9 + ((pay l : Nat) : Int)) = ((9 + pay l : Nat) : Int) := by rw [w64 (by omega) (by omega)]; omega
  have hb : ∀ x ∈ (l.take (9 + pay l)).drop 9, 0 ≤ x ∧ x ≤ 255 := fun x hx => hl x (List.mem_of_mem_take (List.mem_of_mem_drop hx))
  have hbl : ((l.take (9 + pay l)).drop 9).length = pay l := by rw [List.length_drop, List.length_take]; omega
  have r0 := rd_range hl 0
  have b0 : wrap64 (rd l 0) = rd l 0 := w64 (by omega) (by omega)
  have hf := refframe_ev (rd l 0) ((l.take (9 + pay l)).drop 9) r0.1 r0.2 hb (by rw [hbl]; omega)
  have hk : hd (rd l 0) ((l.take (9 + pay l)).drop 9) = l.take 5 := by
    unfold hd
    rw [hbl, take5 (by omega)]
    congr 1
    exact four_num4 (by rw [List.length_drop, List.length_take]; omega) (fun z hz => hl z (List.mem_of_mem_take (List.mem_of_mem_drop hz)))
  have hcut : l.take (9 + pay l) = l.take 5 ++ ((l.take 9).drop 5 ++ (l.take (9 + pay l)).drop 9) := by
    have e1 : l.take (9 + pay l) = (l.take (9 + pay l)).take 9 ++ (l.take (9 + pay l)).drop 9 := (List.take_append_drop 9 _).symm
    have e2 : (l.take (9 + pay l)).take 9 = l.take 9 := by rw [List.take_take]; congr 1; omega
    have e3 : l.take 9 = (l.take 9).take 5 ++ (l.take 9).drop 5 := (List.take_append_drop 5 _).symm
    have e4 : (l.take 9).take 5 = l.take 5 := by rw [List.take_take, show min 5 9 = 5 from rfl]
    rw [e2] at e1
    rw [e4] at e3
    rw [← List.append_assoc, ← e3]
    exact e1
  have hq4 : ((l.take 9).drop 5).length = 4 := by rw [List.length_drop, List.length_take]; omega
  have hq4r : ∀ z ∈ (l.take 9).drop 5, 0 ≤ z ∧ z ≤ 255 := fun z hz => hl z (List.mem_of_mem_take (List.mem_of_mem_drop hz))
  have hs4 : sumL (l.take 5 ++ (l.take (9 + pay l)).drop 9) < 4294967296 := sumL_lt (fun x hx => (List.mem_append.1 hx).elim (fun h => hl x (List.mem_of_mem_take h)) (hb x))
  refine Ev.step (f := fun k => (if 9 ≤ (wrap64 (9 + ((pay l : Nat) : Int))) then (if (wrap64 (9 + ((pay l : Nat) : Int))) ≤ (l.length : Int) then (if ([] : List Int).length + ((l.take ((wrap64 (9 + ((pay l : Nat) : Int))) : Int).toNat).drop 9).length < 140737488355328 then ((some (([] : List Int) ++ ((l.take ((wrap64 (9 + ((pay l : Nat) : Int))) : Int).toNat).drop 9) : List Int)).bind fun y154 => (if 0 < (l.length : Int) then ((lysimeterref4_Frame.f k (wrap64 (rd l 0)) y154).bind fun bt158 => (if 0 ≤ (wrap64 (9 + ((pay l : Nat) : Int))) then (if (strOfNums bt158.1).toList = (strOfNums (l.take ((wrap64 (9 + ((pay l : Nat) : Int))) : Int).toNat)).toList then (some (wrap64 (rd l 0), y154, wrap64 (9 + ((pay l : Nat) : Int)), 0)) else (some (0, ([] : List Int), 0, 5))) else (none))) else (none))) else (none)) else (none)) else (none))) (fun k => ?_) ?_
  · simp only [lysimeterref4_ReadFrame.j0]
    rw [if_neg (by decide)]
  rw [h9w, Int.toNat_natCast, b0]
  refine ev_if_pos (by omega) (ev_if_pos (by omega) (ev_if_pos (by rw [hbl]; simp; omega) (ev_some_bind (ev_if_pos (by omega) ?_))))
  rw [List.nil_append]
  refine Ev.bind hf (ev_if_pos (by omega) ?_)
  unfold fput
  rw [hk]
  dsimp only
  generalize (l.take (9 + pay l)).drop 9 = P at *
  by_cases hs : sumL (l.take 5 ++ P) = num4 ((l.take 9).drop 5)
  · rw [if_pos hs]
    refine ev_if_pos ?_ (Ev.now _)
    rw [hs, four_num4 hq4 hq4r, List.append_assoc, ← hcut]
  · rw [if_neg hs]
    refine ev_if_neg ?_ (Ev.now _)
    intro he
    have hx := strs_eq (fun x hx => (List.mem_append.1 hx).elim (fun h => (List.mem_append.1 h).elim (fun h => hl x (List.mem_of_mem_take h)) (four_range _ x)) (hb x)) (fun x hx => hl x (List.mem_of_mem_take hx)) he
    rw [hcut, List.append_assoc] at hx
    have hy := List.append_cancel_left hx
    have hz := List.append_inj_left hy (by rw [four_len, hq4])
    exact hs (by rw [← hz, num4_four hs4])
theorem fget_cases (b : List Int) : fget b = (0, [], 0, 5) ∨ ∃ (kd : Int) (p : List Int) (n : Nat), fget b = (kd, p, (n : Int), 0) ∧ 9 ≤ n ∧ n ≤ b.length ∧ p.length ≤ b.length := by
  unfold fget
  by_cases h1 : b.length < 9
  · exact .inl (if_pos h1)
  rw [if_neg h1]
  by_cases h2 : pay b > 1048576
  · exact .inl (if_pos h2)
  rw [if_neg h2]
  by_cases h3 : 9 + pay b > b.length
  · exact .inl (if_pos h3)
  rw [if_neg h3]
  by_cases h4 : sumL (b.take 5 ++ (b.take (9 + pay b)).drop 9) = num4 ((b.take 9).drop 5)
  · exact .inr ⟨_, _, 9 + pay b, if_pos h4, by omega, by omega, by rw [List.length_drop, List.length_take]; omega⟩
  · exact .inl (if_neg h4)
theorem fget_len (b : List Int) : (fget b).2.1.length ≤ b.length := by
  rcases fget_cases b with h | ⟨kd, p, n, h, _, _, hp⟩
  · rw [h]; exact Nat.zero_le _
  · rw [h]; exact hp
/-- The frames that lie at the head of b, and how many bytes they are. -/
def frL : Nat → List Int → List S34 × Nat
  | 0, _ => ([], 0)
  | n + 1, b => if (fget b).2.2.2 = 0 then (⟨(fget b).1, (fget b).2.1⟩ :: (frL n (b.drop (fget b).2.2.1.toNat)).1, (fget b).2.2.1.toNat + (frL n (b.drop (fget b).2.2.1.toNat)).2) else ([], 0)
theorem frL_len : ∀ (n : Nat) (b : List Int), (frL n b).1.length ≤ n
  | 0, b => Nat.le_refl _
  | n + 1, b => by
    unfold frL
    split
    · rw [List.length_cons]
      have := frL_len n (b.drop (fget b).2.2.1.toNat)
      omega
    · exact Nat.zero_le _
theorem all_l0 : ∀ (n : Nat) (b : List Int) (acc : List S34) (p : Nat), (∀ x ∈ b, 0 ≤ x ∧ x ≤ 255) → b.length ≤ n → p + b.length ≤ 10000 → acc.length ≤ p →
    Ev (fun k => frame_All.l0 k b acc (p : Int)) (acc ++ (frL n b).1, ((p + (frL n b).2 : Nat) : Int)) := by
  intro n
  induction n with
  | zero =>
    intro b acc p hb hn hp ha
    have hg := get_ev b hb (by omega)
    rcases fget_cases b with h | ⟨kd, q, m, h, h9, hm, _⟩
    · rw [h] at hg
      refine Ev.step (f := fun k => (frame_Get.f k b).bind fun g => if g.2.2.2 = 0 then (if 0 ≤ g.2.2.1 ∧ g.2.2.1 ≤ (b.length : Int) ∧ acc.length < 1000000000 then frame_All.l0 k (b.drop g.2.2.1.toNat) (acc ++ [⟨g.1, g.2.1⟩]) (wrap64 ((p : Int) + g.2.2.1)) else none) else some (acc, (p : Int))) (fun k => rfl) ?_
      refine Ev.bind hg (ev_if_neg (by decide) ?_)
      unfold frL
      rw [List.append_nil, Nat.add_zero]
      exact Ev.now _
    · omega
  | succ n ih =>
    intro b acc p hb hn hp ha
    have hg := get_ev b hb (by omega)
    refine Ev.step (f := fun k => (frame_Get.f k b).bind fun g => if g.2.2.2 = 0 then (if 0 ≤ g.2.2.1 ∧ g.2.2.1 ≤ (b.length : Int) ∧ acc.length < 1000000000 then frame_All.l0 k (b.drop g.2.2.1.toNat) (acc ++ [⟨g.1, g.2.1⟩]) (wrap64 ((p : Int) + g.2.2.1)) else none) else some (acc, (p : Int))) (fun k => rfl) ?_
    unfold frL
    rcases fget_cases b with h | ⟨kd, q, m, h, h9, hm, _⟩
    · rw [h] at hg ⊢
      rw [if_neg (by decide), List.append_nil, Nat.add_zero]
      exact Ev.bind hg (ev_if_neg (by decide) (Ev.now _))
    · rw [h] at hg ⊢
      rw [if_pos rfl]
      dsimp only
      rw [Int.toNat_natCast]
      refine Ev.bind hg ?_
      dsimp only
      refine ev_if_pos rfl (ev_if_pos ⟨by omega, by omega, by omega⟩ ?_)
      have e : wrap64 ((p : Int) + (m : Int)) = ((p + m : Nat) : Int) := by rw [w64 (by omega) (by omega)]; omega
      rw [Int.toNat_natCast, e]
      have hd : (b.drop m).length = b.length - m := List.length_drop
      have z := ih (b.drop m) (acc ++ [⟨kd, q⟩]) (p + m) (fun x hx => hb x (List.mem_of_mem_drop hx)) (by omega) (by omega) (by rw [List.length_append, List.length_singleton]; omega)
      rw [List.append_assoc, List.singleton_append, Nat.add_assoc] at z
      exact z
theorem all_ev (b : List Int) (hb : ∀ x ∈ b, 0 ≤ x ∧ x ≤ 255) (hn : b.length ≤ 10000) : Ev (fun k => frame_All.f k b) ((frL b.length b).1, (((frL b.length b).2 : Nat) : Int)) := by
  have z := all_l0 b.length b [] 0 hb (Nat.le_refl _) (by omega) (Nat.zero_le _)
  rw [List.nil_append, Nat.zero_add] at z
  exact z
theorem frames_l0 (b : List Int) (hb : ∀ x ∈ b, 0 ≤ x ∧ x ≤ 255) (hn : b.length ≤ 10000) : ∀ (n : Nat) (acc : List S34) (p : Nat), (b.drop p).length ≤ n → p ≤ b.length → acc.length ≤ p →
    Ev (fun k => lysimeterref4_Frames.l0 k b acc (p : Int)) (acc ++ (frL n (b.drop p)).1, ((p + (frL n (b.drop p)).2 : Nat) : Int)) := by
  intro n
  induction n with
  | zero =>
    intro acc p hd hp ha
    have hr := readframe_ev (b.drop p) (fun x hx => hb x (List.mem_of_mem_drop hx)) (by omega)
    rcases fget_cases (b.drop p) with h | ⟨kd, q, m, h, h9, hm, _⟩
    · rw [h] at hr
      refine Ev.step (f := fun k => if 0 ≤ (p : Int) then (if (p : Int) ≤ (b.length : Int) then ((lysimeterref4_ReadFrame.f k (b.drop ((p : Int)).toNat)).bind fun bt165 => (if bt165.2.2.2 = 0 then (if acc.length < 4398046511104 then (lysimeterref4_Frames.l0 k b (acc ++ [(⟨bt165.1, bt165.2.1⟩ : S34)]) (wrap64 ((p : Int) + bt165.2.2.1))) else (none)) else (some (acc, (p : Int))))) else (none)) else (none)) (fun k => rfl) ?_
      rw [Int.toNat_natCast]
      refine ev_if_pos (by omega) (ev_if_pos (by omega) (Ev.bind hr (ev_if_neg (by decide) ?_)))
      unfold frL
      rw [List.append_nil, Nat.add_zero]
      exact Ev.now _
    · omega
  | succ n ih =>
    intro acc p hd hp ha
    have hdl : (b.drop p).length = b.length - p := List.length_drop
    have hr := readframe_ev (b.drop p) (fun x hx => hb x (List.mem_of_mem_drop hx)) (by omega)
    refine Ev.step (f := fun k => if 0 ≤ (p : Int) then (if (p : Int) ≤ (b.length : Int) then ((lysimeterref4_ReadFrame.f k (b.drop ((p : Int)).toNat)).bind fun bt165 => (if bt165.2.2.2 = 0 then (if acc.length < 4398046511104 then (lysimeterref4_Frames.l0 k b (acc ++ [(⟨bt165.1, bt165.2.1⟩ : S34)]) (wrap64 ((p : Int) + bt165.2.2.1))) else (none)) else (some (acc, (p : Int))))) else (none)) else (none)) (fun k => rfl) ?_
    rw [Int.toNat_natCast]
    refine ev_if_pos (by omega) (ev_if_pos (by omega) ?_)
    unfold frL
    rcases fget_cases (b.drop p) with h | ⟨kd, q, m, h, h9, hm, _⟩
    · rw [h] at hr ⊢
      rw [if_neg (by decide), List.append_nil, Nat.add_zero]
      exact Ev.bind hr (ev_if_neg (by decide) (Ev.now _))
    · rw [h] at hr ⊢
      rw [if_pos rfl]
      dsimp only
      rw [Int.toNat_natCast]
      refine Ev.bind hr (ev_if_pos rfl (ev_if_pos (by omega) ?_))
      dsimp only
      have e : wrap64 ((p : Int) + (m : Int)) = ((p + m : Nat) : Int) := by rw [w64 (by omega) (by omega)]; omega
      rw [e]
      have z := ih (acc ++ [⟨kd, q⟩]) (p + m) (by rw [List.length_drop]; omega) (by omega) (by rw [List.length_append, List.length_singleton]; omega)
      rw [List.append_assoc, List.singleton_append, Nat.add_assoc, ← List.drop_drop] at z
      exact z
theorem frames_ev (b : List Int) (hb : ∀ x ∈ b, 0 ≤ x ∧ x ≤ 255) (hn : b.length ≤ 10000) : Ev (fun k => lysimeterref4_Frames.f k b) ((frL b.length b).1, (((frL b.length b).2 : Nat) : Int)) := by
  have z := frames_l0 b hb hn b.length [] 0 (Nat.le_refl _) (Nat.zero_le _) (Nat.zero_le _)
  rw [List.drop_zero, List.nil_append, Nat.zero_add] at z
  exact z
theorem gets_l1 (r : List S34) (hr : r.length ≤ 10000) : ∀ (d i : Nat), i + d = r.length → Ev (fun k => lysimeterlaw9_FrameGets.l1 k r r (i : Int)) true := by
  intro d
  induction d with
  | zero =>
    intro i hi
    refine Ev.step (f := fun _ => some true) (fun k => ?_) (Ev.now _)
    simp only [lysimeterlaw9_FrameGets.l1]
    rw [if_neg (by omega)]
  | succ d ih =>
    intro i hi
    refine Ev.step (f := fun k => lysimeterlaw9_FrameGets.l1 k r r ((i + 1 : Nat) : Int)) (fun k => ?_) (ih (i + 1) (by omega))
    have e : wrap64 ((i : Int) + 1) = ((i + 1 : Nat) : Int) := by rw [w64 (by omega) (by omega)]; omega
    simp only [lysimeterlaw9_FrameGets.l1]
    rw [if_pos (by omega), if_pos (by omega), if_pos (by omega), if_pos trivial, if_pos trivial, e]
theorem gets_l0 (b : List Int) (hb : ∀ x ∈ b, 0 ≤ x ∧ x ≤ 255) (hn : b.length ≤ 10000) : ∀ (d : Nat) (q : List Int) (i : Nat), q.length ≤ 10000 → i + d = q.length → Ev (fun k => lysimeterlaw9_FrameGets.l0 k b q (i : Int)) true := by
  intro d
  induction d with
  | zero =>
    intro q i hq hi
    refine Ev.step (f := fun k => ((frame_All.f k b).bind fun bt190 => ((lysimeterref4_Frames.f k b).bind fun bt194 => (if bt190.2 = bt194.2 then (lysimeterlaw9_FrameGets.j3 k bt190.1 bt194.1 ((bt190.1.length : Int) != (bt194.1.length : Int))) else (lysimeterlaw9_FrameGets.j3 k bt190.1 bt194.1 true))))) (fun k => ?_) ?_
    · simp only [lysimeterlaw9_FrameGets.l0]
      rw [if_neg (by omega)]
    refine Ev.bind (all_ev b hb hn) (Ev.bind (frames_ev b hb hn) (ev_if_pos rfl ?_))
    rw [show ∀ x : Int, (x != x) = false from fun x => by simp]
    refine Ev.step (f := fun k => lysimeterlaw9_FrameGets.l1 k _ _ ((0 : Nat) : Int)) (fun k => ?_) (gets_l1 (frL b.length b).1 (by have := frL_len b.length b; omega) (frL b.length b).1.length 0 (by omega))
    simp only [lysimeterlaw9_FrameGets.j3]
    rw [if_neg (by decide)]
    rfl
  | succ d ih =>
    intro q i hq hi
    refine Ev.step (f := fun k => lysimeterlaw9_FrameGets.l0 k b (q.set ((i : Int)).toNat (Go.bits .xor .u8 (rd q (i : Int)) 255)) ((i + 1 : Nat) : Int)) (fun k => ?_) (ih _ (i + 1) (by rw [List.length_set]; exact hq) (by rw [List.length_set]; omega))
    have e : wrap64 ((i : Int) + 1) = ((i + 1 : Nat) : Int) := by rw [w64 (by omega) (by omega)]; omega
    simp only [lysimeterlaw9_FrameGets.l0]
    rw [if_pos (by omega), if_pos (by omega), e]
theorem FrameGets : lysimeterlaw9_FrameGets.Pure := by
  intro b hm hn hw
  have hb : ∀ x ∈ b, 0 ≤ x ∧ x ≤ 255 := fun x hx => wf_u8 (hw x hx)
  refine Ev.rounds (r := true) (g := fun k => lysimeterlaw9_FrameGets.f k b) ?_
  unfold lysimeterlaw9_FrameGets.f
  refine Ev.bind alive9_ev (ev_if_pos rfl ?_)
  by_cases c : (b.length : Int) > 10000
  · rw [decide_eq_true c]
    refine Ev.step (f := fun _ => some true) (fun k => ?_) (Ev.now _)
    simp only [lysimeterlaw9_FrameGets.j0, if_true]
  rw [decide_eq_false c]
  have hg := get_ev b hb (by omega)
  have hr := readframe_ev b hb (by omega)
  have hq := fget_len b
  generalize fget b = r at *
  obtain ⟨q1, q2, q3, q4⟩ := r
  dsimp only at hq
  refine Ev.step (f := fun k => ((frame_Get.f k b).bind fun bt175 => ((lysimeterref4_ReadFrame.f k b).bind fun bt181 => ((lysimeterlaw9_num.f bt175.2.2.2).bind fun t187 => (if t187 = bt181.2.2.2 then (if bt175.1 = bt181.1 then (if (strOfNums bt175.2.1).toList = (strOfNums bt181.2.1).toList then (lysimeterlaw9_FrameGets.j1 k b bt175.2.1 (bt175.2.2.1 != bt181.2.2.1)) else (lysimeterlaw9_FrameGets.j1 k b bt175.2.1 true)) else (lysimeterlaw9_FrameGets.j1 k b bt175.2.1 true)) else (lysimeterlaw9_FrameGets.j1 k b bt175.2.1 true)))))) (fun k => ?_) ?_
  · simp only [lysimeterlaw9_FrameGets.j0]
    rw [if_neg (by decide)]
  refine Ev.bind hg (Ev.bind hr (ev_one_bind (num9_ev _) (ev_if_pos rfl (ev_if_pos rfl (ev_if_pos rfl ?_)))))
  rw [show ∀ x : Int, (x != x) = false from fun x => by simp]
  refine Ev.step (f := fun k => lysimeterlaw9_FrameGets.l0 k b q2 ((0 : Nat) : Int)) (fun k => ?_) (gets_l0 b hb (by omega) q2.length q2 0 (by omega) (by omega))
  simp only [lysimeterlaw9_FrameGets.j1]
  rw [if_neg (by decide)]
  rfl

end Go.Proofs.Ytjilnpbgclnecab.Pure
