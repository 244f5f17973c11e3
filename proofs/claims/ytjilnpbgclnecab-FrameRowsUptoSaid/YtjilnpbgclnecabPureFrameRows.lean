/- Frames one behind the other, cut anywhere, are read by frame.All up to the last whole one, for every list of records with few bytes (statement FrameRows, its form with a bound on the arguments); no condition. -/
import Derived.Test.YtjilnpbgclnecabPFrameRowsx4
import Derived.Test.YtjilnpbgclnecabXPure
set_option linter.unusedVariables false
set_option linter.unusedSimpArgs false
namespace Go.Proofs.Ytjilnpbgclnecab.Pure
open Go Go.RowKit Go.Proofs.Ytjilnpbgclnecab.PFrameRows Go.Proofs.Ytjilnpbgclnecab.XP Go.Proofs.YtjilnpbgclnecabW.PrintWords Go.Proofs.YtjilnpbgclnecabW.PrintLast Go.Proofs.YtjilnpbgclnecabW.PrintMore

/-! ### the sum -/
def step1 (c : Nat) : Nat := if c % 2 = 0 then c / 2 else (c / 2) ^^^ 2197175160
def steps : Nat → Nat → Nat
  | 0, c => c
  | n + 1, c => steps n (step1 c)
def crcB (c : Nat) (b : Int) : Nat := steps 8 (c ^^^ b.toNat)
def crcL (c : Nat) (l : List Int) : Nat := l.foldl crcB c
theorem step1_lt {c : Nat} (h : c < 4294967296) : step1 c < 4294967296 := by
  unfold step1
  split
  · omega
  · exact Nat.xor_lt_two_pow (n := 32) (by omega) (by omega)
theorem steps_lt (n : Nat) : ∀ {c : Nat}, c < 4294967296 → steps n c < 4294967296 := by
  induction n with
  | zero => intro c h; exact h
  | succ n ih => intro c h; exact ih (step1_lt h)
theorem crcB_lt {c : Nat} {b : Int} (h : c < 4294967296) (h0 : 0 ≤ b) (h1 : b ≤ 255) : crcB c b < 4294967296 :=
  steps_lt 8 (Nat.xor_lt_two_pow (n := 32) (by omega) (by omega))
theorem crcL_lt (l : List Int) : ∀ {c : Nat}, c < 4294967296 → (∀ x ∈ l, 0 ≤ x ∧ x ≤ 255) → crcL c l < 4294967296 := by
  induction l with
  | nil => intro c h _; exact h
  | cons b l ih =>
    intro c h hl
    exact ih (crcB_lt h (hl b List.mem_cons_self).1 (hl b List.mem_cons_self).2) (fun x hx => hl x (List.mem_cons_of_mem _ hx))
theorem crcL_append (c : Nat) (l m : List Int) : crcL c (l ++ m) = crcL (crcL c l) m := List.foldl_append
theorem rd_mem {l : List Int} {i : Nat} (h : i < l.length) : rd l (i : Int) = l[i] := by
  unfold rd
  rw [Int.toNat_natCast, List.getD_eq_getElem?_getD, List.getElem?_eq_getElem h]; rfl

theorem more_l1 (l : List Int) (n i : Int) (r : Int) : ∀ (j : Nat) (c : Nat), j ≤ 8 → c < 4294967296 → Ev (fun k => frame_more.l0 k ((steps j c : Nat) : Int) l n (wrap64 (i + 1))) r →
    Ev (fun k => frame_more.l1 k (c : Int) l n i ((8 - j : Nat) : Int)) r := by
  intro j
  induction j with
  | zero =>
    intro c _ _ h
    refine Ev.step (f := fun k => frame_more.l0 k (c : Int) l n (wrap64 (i + 1))) (fun k => ?_) h
    simp only [frame_more.l1]
    rw [if_neg (by omega)]
  | succ j ih =>
    intro c hj hc h
    have hw : wrap64 (((8 - (j + 1) : Nat) : Int) + 1) = ((8 - j : Nat) : Int) := by unfold wrap64; omega
    have hb : Go.bits .and .u32 (c : Int) 1 = ((c % 2 : Nat) : Int) := by
      rw [show (1 : Int) = ((1 : Nat) : Int) from rfl, u32_and_nat c 1 hc (by decide), nat_mask1]
    have hd : ((c : Int) / 2) = ((c / 2 : Nat) : Int) := by omega
    have hx : Go.bits .xor .u32 ((c / 2 : Nat) : Int) 2197175160 = (((c / 2) ^^^ 2197175160 : Nat) : Int) := by
      rw [show (2197175160 : Int) = ((2197175160 : Nat) : Int) from rfl, u32_xor_nat _ _ (by omega) (by decide)]
    refine Ev.step (f := fun k => frame_more.l1 k ((step1 c : Nat) : Int) l n i ((8 - j : Nat) : Int)) (fun k => ?_) (ih (step1 c) (by omega) (step1_lt hc) h)
    simp only [frame_more.l1]
    rw [if_pos (by omega), hb, hw, hd, hx]
    unfold step1
    by_cases e : c % 2 = 0
    · rw [if_pos (by omega), if_pos e]
    · rw [if_neg (by omega), if_neg e]
theorem more_l0 (l : List Int) (hl : ∀ x ∈ l, 0 ≤ x ∧ x ≤ 255) (hn : l.length ≤ 140737488351232) : ∀ (d i c : Nat), i + d = l.length → c < 4294967296 →
    Ev (fun k => frame_more.l0 k (c : Int) l (l.length : Int) (i : Int)) ((crcL c (l.drop i) : Nat) : Int) := by
  intro d
  induction d with
  | zero =>
    intro i c hi hc
    refine Ev.step (f := fun _ => some (c : Int)) (fun k => ?_) ?_
    · simp only [frame_more.l0]
      rw [if_neg (by omega)]
    · rw [List.drop_of_length_le (by omega)]
      exact Ev.now _
  | succ d ih =>
    intro i c hi hc
    have hlt : i < l.length := by omega
    have hm := hl l[i] (List.getElem_mem hlt)
    have hb : (l[i] % 4294967296) = ((l[i].toNat : Nat) : Int) := by omega
    have hx : Go.bits .xor .u32 (c : Int) ((l[i].toNat : Nat) : Int) = ((c ^^^ l[i].toNat : Nat) : Int) := u32_xor_nat _ _ hc (by omega)
    have hlt2 : c ^^^ l[i].toNat < 4294967296 := Nat.xor_lt_two_pow (n := 32) (by omega) (by omega)
    refine Ev.step (f := fun k => frame_more.l1 k ((c ^^^ l[i].toNat : Nat) : Int) l (l.length : Int) (i : Int) ((8 - 8 : Nat) : Int)) (fun k => ?_) ?_
    · simp only [frame_more.l0]
      rw [if_pos (by omega), if_pos (by omega), if_pos (by omega), rd_mem hlt, hb, hx]
      rfl
    · refine more_l1 l _ _ _ 8 _ (Nat.le_refl _) hlt2 ?_
      have h1 := ih (i + 1) (crcB c l[i]) (by omega) (crcB_lt hc hm.1 hm.2)
      have hw : wrap64 ((i : Int) + 1) = ((i + 1 : Nat) : Int) := by unfold wrap64; omega
      rw [hw, List.drop_eq_getElem_cons hlt]
      exact h1
theorem more_ev (l : List Int) (hl : ∀ x ∈ l, 0 ≤ x ∧ x ≤ 255) (hn : l.length ≤ 140737488351232) (c : Nat) (hc : c < 4294967296) :
    Ev (fun k => frame_more.f k (c : Int) l) ((crcL c l : Nat) : Int) := more_l0 l hl hn l.length 0 c (by omega) hc
def sumL (l : List Int) : Nat := crcL 4294967295 l ^^^ 4294967295
theorem sumL_lt {l : List Int} (hl : ∀ x ∈ l, 0 ≤ x ∧ x ≤ 255) : sumL l < 4294967296 :=
  Nat.xor_lt_two_pow (n := 32) (crcL_lt l (by decide) hl) (by decide)
theorem not32 {c : Nat} (h : c < 4294967296) : Go.bits .xor .u32 4294967295 (c : Int) = ((c ^^^ 4294967295 : Nat) : Int) := by
  rw [show (4294967295 : Int) = ((4294967295 : Nat) : Int) from rfl, u32_xor_nat _ _ (by decide) h, Nat.xor_comm]
theorem sum_ev (l : List Int) (hl : ∀ x ∈ l, 0 ≤ x ∧ x ≤ 255) (hn : l.length ≤ 140737488351232) : Ev (fun k => frame_Sum.f k l) ((sumL l : Nat) : Int) := by
  have h := more_ev l hl hn 4294967295 (by decide)
  unfold frame_Sum.f
  refine Ev.bind h ?_
  have hs := sumL_lt hl
  rw [not32 (crcL_lt l (by decide) hl), w64 (by omega) (by unfold sumL at hs; omega)]
  exact Ev.now _
theorem alive9_ev : Ev (fun k => lysimeterlaw9_alive.f k) true := by
  unfold lysimeterlaw9_alive.f
  have h0 := sum_ev [] (by simp) (by simp)
  rw [show ((sumL [] : Nat) : Int) = 0 from by decide +kernel] at h0
  have h9 := sum_ev lysimeterlaw9_alive.nine (by decide) (by decide)
  rw [show ((sumL lysimeterlaw9_alive.nine : Nat) : Int) = 3808858755 from by decide +kernel] at h9
  refine Ev.bind h0 (ev_if_pos rfl (Ev.bind h9 ?_))
  exact Ev.now _
/-! ### frames -/
def four (n : Nat) : List Int := [((n % 256 : Nat) : Int), ((n / 256 % 256 : Nat) : Int), ((n / 65536 % 256 : Nat) : Int), ((n / 16777216 % 256 : Nat) : Int)]
theorem four_len (n : Nat) : (four n).length = 4 := rfl
theorem four_range (n : Nat) : ∀ x ∈ four n, 0 ≤ x ∧ x ≤ 255 := by
  intro x hx
  simp only [four, List.mem_cons, List.not_mem_nil, or_false] at hx
  omega
def num4 (l : List Int) : Nat := (rd l 0).toNat + (rd l 1).toNat * 256 + (rd l 2).toNat * 65536 + (rd l 3).toNat * 16777216
theorem num4_four {n : Nat} (h : n < 4294967296) : num4 (four n) = n := by
  unfold num4 four rd
  simp
  omega
def hd (kind : Int) (b : List Int) : List Int := kind :: four b.length
def fput (kind : Int) (b : List Int) : List Int := hd kind b ++ four (sumL (hd kind b ++ b)) ++ b
theorem hd_len (kind : Int) (b : List Int) : (hd kind b).length = 5 := rfl
theorem fput_len (kind : Int) (b : List Int) : (fput kind b).length = 9 + b.length := by
  unfold fput
  rw [List.length_append, List.length_append, hd_len, four_len]
theorem hd_range {kind : Int} (b : List Int) (h0 : 0 ≤ kind) (h1 : kind ≤ 255) : ∀ x ∈ hd kind b, 0 ≤ x ∧ x ≤ 255 := by
  intro x hx
  rcases List.mem_cons.1 hx with rfl | hx
  · exact ⟨h0, h1⟩
  · exact four_range _ x hx
theorem fput_range {kind : Int} {b : List Int} (h0 : 0 ≤ kind) (h1 : kind ≤ 255) (hb : ∀ x ∈ b, 0 ≤ x ∧ x ≤ 255) : ∀ x ∈ fput kind b, 0 ≤ x ∧ x ≤ 255 := by
  intro x hx
  rcases List.mem_append.1 hx with hx | hx
  · rcases List.mem_append.1 hx with hx | hx
    · exact hd_range b h0 h1 x hx
    · exact four_range _ x hx
  · exact hb x hx
theorem four_ev (n : Nat) : frame_four.f (n : Int) = some (four n) := by
  unfold frame_four.f four
  have e1 : ((n : Int) % 256) = ((n % 256 : Nat) : Int) := by omega
  have e2 : ((n : Int) / 256 % 256) = ((n / 256 % 256 : Nat) : Int) := by omega
  have e3 : ((n : Int) / 65536 % 256) = ((n / 65536 % 256 : Nat) : Int) := by omega
  have e4 : ((n : Int) / 16777216 % 256) = ((n / 16777216 % 256 : Nat) : Int) := by omega
  rw [e1, e2, e3, e4]
theorem num9_ev (n : Int) : lysimeterlaw9_num.f n = some n := rfl
theorem rd_range {l : List Int} (hl : ∀ x ∈ l, 0 ≤ x ∧ x ≤ 255) (i : Int) : 0 ≤ rd l i ∧ rd l i ≤ 255 := by
  unfold rd
  rw [List.getD_eq_getElem?_getD]
  rcases Nat.lt_or_ge i.toNat l.length with h | h
  · rw [List.getElem?_eq_getElem h]
    exact hl _ (List.getElem_mem h)
  · rw [List.getElem?_eq_none h]
    simp
theorem or_i64 {a b : Nat} (k : Nat) (hk : k ≤ 63) (hb : b % 2 ^ k = 0) (ha : a < 2 ^ k) (hs : a + b < 9223372036854775808) : Go.bits .or .i64 (a : Int) (b : Int) = ((a + b : Nat) : Int) := by
  show IntKind.i64.wrap ((BitVec.ofInt 64 (a : Int) ||| BitVec.ofInt 64 (b : Int)).toNat : Int) = _
  rw [BitVec.toNat_or, BitVec.ofInt_natCast, BitVec.ofInt_natCast, BitVec.toNat_ofNat, BitVec.toNat_ofNat, Nat.mod_eq_of_lt (by omega), Nat.mod_eq_of_lt (by omega), Nat.or_comm, nat_join k b a hb ha, IntKind.wrap_i64]
  omega
theorem number_ev {l : List Int} (hl : ∀ x ∈ l, 0 ≤ x ∧ x ≤ 255) (hn : 4 ≤ l.length) : frame_number.f l = some ((num4 l : Nat) : Int) := by
  have r0 := rd_range hl 0
  have r1 := rd_range hl 1
  have r2 := rd_range hl 2
  have r3 := rd_range hl 3
  unfold frame_number.f num4
  rw [if_pos (by omega), if_pos (by omega), if_pos (by omega), if_pos (by omega)]
  generalize rd l 0 = a at *
  generalize rd l 1 = b at *
  generalize rd l 2 = c at *
  generalize rd l 3 = d at *
  obtain ⟨a, rfl⟩ := Int.eq_ofNat_of_zero_le r0.1
  obtain ⟨b, rfl⟩ := Int.eq_ofNat_of_zero_le r1.1
  obtain ⟨c, rfl⟩ := Int.eq_ofNat_of_zero_le r2.1
  obtain ⟨d, rfl⟩ := Int.eq_ofNat_of_zero_le r3.1
  simp only [Int.toNat_natCast]
  rw [w64 (x := (a : Int)) (by omega) (by omega), w64 (x := (b : Int)) (by omega) (by omega), w64 (x := (c : Int)) (by omega) (by omega), w64 (x := (d : Int)) (by omega) (by omega)]
  have e1 : wrap64 ((b : Int) * 256) = ((b * 256 : Nat) : Int) := by rw [w64 (by omega) (by omega)]; omega
  have e2 : wrap64 ((c : Int) * 65536) = ((c * 65536 : Nat) : Int) := by rw [w64 (by omega) (by omega)]; omega
  have e3 : wrap64 ((d : Int) * 16777216) = ((d * 16777216 : Nat) : Int) := by rw [w64 (by omega) (by omega)]; omega
  rw [e1, e2, e3, or_i64 8 (by decide) (by omega) (by omega) (by omega), or_i64 16 (by decide) (by omega) (by omega) (by omega), or_i64 24 (by decide) (by omega) (by omega) (by omega)]
def pay (l : List Int) : Nat := num4 ((l.take 5).drop 1)
def fsum (l : List Int) : Nat := sumL (l.take 5 ++ (l.take (9 + pay l)).drop 9)
def fgood (l : List Int) : Prop := 9 ≤ l.length ∧ pay l ≤ 1048576 ∧ 9 + pay l ≤ l.length ∧ fsum l = num4 ((l.take 9).drop 5)
theorem clone_byte {l : List Int} (h : l.length < 140737488355328) : slices_Clone_byte_byte.f l = some l := by
  unfold slices_Clone_byte_byte.f
  rw [if_pos]
  omega
/-- Frame.Get up to its sums: n is the payload's length. -/
theorem get_j0 (l : List Int) (hl : ∀ x ∈ l, 0 ≤ x ∧ x ≤ 255) (hn : l.length ≤ 140737488351232) (n : Nat) (h9 : 9 + n ≤ l.length) (r : Int × List Int × Int × Int)
    (hr : r = if sumL (l.take 5 ++ (l.take (9 + n)).drop 9) = num4 ((l.take 9).drop 5) then (rd l 0, (l.take (9 + n)).drop 9, ((9 + n : Nat) : Int), 0) else (0, [], 0, 5)) :
    Ev (fun k => frame_Get.j0 k l (n : Int) false) r := by
  have hsub : ∀ (a b : Nat), ∀ x ∈ (l.take a).drop b, 0 ≤ x ∧ x ≤ 255 := fun a b x hx => hl x (List.mem_of_mem_take (List.mem_of_mem_drop hx))
  have h9w : wrap64 (9 + (n : Int)) = ((9 + n : Nat) : Int) := by rw [w64 (by omega) (by omega)]; omega
  have a1 : (5 : Int) ≤ (l.length : Int) := by omega
  have a2 : (9 : Int) ≤ ((9 + n : Nat) : Int) := by omega
  have a3 : ((9 + n : Nat) : Int) ≤ (l.length : Int) := by omega
  have a4 : (9 : Int) ≤ (l.length : Int) := by omega
  have a5 : (0 : Int) < (l.length : Int) := by omega
  have a6 : (l.take 5).length ≤ 140737488351232 := by rw [List.length_take]; omega
  have a7 : ((l.take (9 + n)).drop 9).length ≤ 140737488351232 := by rw [List.length_drop, List.length_take]; omega
  have a8 : ((l.take (9 + n)).drop 9).length < 140737488355328 := by omega
  have a9 := rd_range hl 0
  have b0 : wrap64 (rd l 0) = rd l 0 := w64 (by omega) (by omega)
  have nev := number_ev (hsub 9 5) (by rw [List.length_drop, List.length_take]; omega)
  have m1 := more_ev (l.take 5) (fun x hx => hl x (List.mem_of_mem_take hx)) a6 4294967295 (by decide)
  have c1 := crcL_lt (c := 4294967295) (l.take 5) (by decide) (fun x hx => hl x (List.mem_of_mem_take hx))
  have m2 := more_ev ((l.take (9 + n)).drop 9) (hsub _ _) a7 _ c1
  have c2 := crcL_lt (c := crcL 4294967295 (l.take 5)) ((l.take (9 + n)).drop 9) c1 (hsub _ _)
  have hsum : crcL (crcL 4294967295 (l.take 5)) ((l.take (9 + n)).drop 9) ^^^ 4294967295 = sumL (l.take 5 ++ (l.take (9 + n)).drop 9) := by unfold sumL; rw [crcL_append]
  have hlt : sumL (l.take 5 ++ (l.take (9 + n)).drop 9) < 4294967296 := sumL_lt (fun x hx => (List.mem_append.1 hx).elim (fun h => hl x (List.mem_of_mem_take h)) (hsub _ _ x))
  refine Ev.step (f := fun k => (if 5 ≤ (l.length : Int) then ((frame_more.f k 4294967295 (l.take 5)).bind fun t133 => (if 9 ≤ (wrap64 (9 + (n : Int))) then (if (wrap64 (9 + (n : Int))) ≤ (l.length : Int) then ((frame_more.f k t133 ((l.take ((wrap64 (9 + (n : Int))) : Int).toNat).drop 9)).bind fun t135 => (if 5 ≤ 9 then (if 9 ≤ (l.length : Int) then ((frame_number.f ((l.take 9).drop 5)).bind fun t137 => (if (wrap64 (Go.bits .xor .u32 4294967295 t135)) = t137 then (if 0 < (l.length : Int) then ((slices_Clone_byte_byte.f ((l.take ((wrap64 (9 + (n : Int))) : Int).toNat).drop 9)).bind fun t140 => (some (wrap64 (rd l 0), t140, wrap64 (9 + (n : Int)), 0))) else (none)) else (some (0, ([] : List Int), 0, 5)))) else (none)) else (none))) else (none)) else (none))) else (none))) (fun k => ?_) ?_
  · simp only [frame_Get.j0]
    rw [if_neg (by decide)]
  · refine ev_if_pos a1 (Ev.bind m1 ?_)
    rw [h9w, Int.toNat_natCast]
    refine ev_if_pos a2 (ev_if_pos a3 (Ev.bind m2 (ev_if_pos (by decide) (ev_if_pos a4 (ev_one_bind nev ?_)))))
    rw [not32 c2, hsum, w64n hlt]
    subst hr
    clear hsum m1 m2 c1 c2 nev
    generalize sumL (l.take 5 ++ (l.take (9 + n)).drop 9) = s at *
    generalize num4 ((l.take 9).drop 5) = t at *
    by_cases hs : s = t
    · rw [if_pos hs]
      refine ev_if_pos (by rw [hs]) (ev_if_pos a5 ?_)
      rw [b0]
      exact ev_one_bind (clone_byte a8) (Ev.now _)
    · rw [if_neg hs]
      exact ev_if_neg (fun h => hs (Int.ofNat.inj h)) (Ev.now _)
def fget (l : List Int) : Int × List Int × Int × Int :=
  if l.length < 9 then (0, [], 0, 5) else if pay l > 1048576 then (0, [], 0, 5) else if 9 + pay l > l.length then (0, [], 0, 5)
  else if sumL (l.take 5 ++ (l.take (9 + pay l)).drop 9) = num4 ((l.take 9).drop 5) then (rd l 0, (l.take (9 + pay l)).drop 9, ((9 + pay l : Nat) : Int), 0) else (0, [], 0, 5)
theorem get_ev (l : List Int) (hl : ∀ x ∈ l, 0 ≤ x ∧ x ≤ 255) (hn : l.length ≤ 140737488351232) : Ev (fun k => frame_Get.f k l) (fget l) := by
  unfold frame_Get.f fget
  by_cases h9 : l.length < 9
  · rw [if_pos h9]
    exact ev_if_pos (by omega) (Ev.now _)
  rw [if_neg h9]
  refine ev_if_neg (by omega) (ev_if_pos (by decide) (ev_if_pos (by omega) ?_))
  have hsub : ∀ (a b : Nat), ∀ x ∈ (l.take a).drop b, 0 ≤ x ∧ x ≤ 255 := fun a b x hx => hl x (List.mem_of_mem_take (List.mem_of_mem_drop hx))
  refine ev_one_bind (number_ev (hsub 5 1) (by rw [List.length_drop, List.length_take]; omega)) ?_
  have hpay : num4 ((l.take 5).drop 1) = pay l := rfl
  rw [hpay]
  have jt : ∀ p : Int, Ev (fun k => frame_Get.j0 k l p true) (0, [], 0, 5) := by
    intro p
    refine Ev.step (f := fun _ => some (0, [], 0, 5)) (fun k => ?_) (Ev.now _)
    simp only [frame_Get.j0, if_true]
  have hw : wrap64 ((l.length : Int) - 9) = (l.length : Int) - 9 := w64 (by omega) (by omega)
  by_cases hp : pay l > 1048576
  · rw [if_pos hp]
    exact ev_if_pos (by omega) (jt _)
  rw [if_neg hp]
  refine ev_if_neg (by omega) ?_
  rw [hw]
  by_cases hq : 9 + pay l > l.length
  · rw [if_pos hq, decide_eq_true (by omega)]
    exact jt _
  · rw [if_neg hq, decide_eq_false (by omega)]
    exact get_j0 l hl hn _ (by omega) _ rfl
theorem put_j0 (kind : Int) (b : List Int) (h0 : 0 ≤ kind) (h1 : kind ≤ 255) (hb : ∀ x ∈ b, 0 ≤ x ∧ x ≤ 255) (hn : b.length ≤ 1048576) : Ev (fun k => frame_Put.j0 k kind b false) (fput kind b, 0) := by
  have e0 : ([kind % 256] : List Int) ++ four b.length = hd kind b := by rw [show kind % 256 = kind from by omega]; rfl
  have hh := hd_range b h0 h1
  have m1 := more_ev (hd kind b) hh (by rw [hd_len]; decide) 4294967295 (by decide)
  have c1 := crcL_lt (c := 4294967295) (hd kind b) (by decide) hh
  have m2 := more_ev b hb (by omega) _ c1
  have c2 := crcL_lt (c := crcL 4294967295 (hd kind b)) b c1 hb
  have hsum : crcL (crcL 4294967295 (hd kind b)) b ^^^ 4294967295 = sumL (hd kind b ++ b) := by unfold sumL; rw [crcL_append]
  have hlt : sumL (hd kind b ++ b) < 4294967296 := sumL_lt (fun x hx => (List.mem_append.1 hx).elim (hh x) (hb x))
  refine Ev.step (f := fun k => (if (b.length : Int) > 1048576 then (some (([] : List Int), 2)) else ((some (([(kind) % 256] : List Int) : List Int)).bind fun y106 => ((frame_four.f (b.length : Int)).bind fun t109 => (if y106.length + t109.length < 140737488355328 then ((some (y106 ++ t109 : List Int)).bind fun y112 => ((frame_more.f k 4294967295 y112).bind fun t115 => ((frame_more.f k t115 b).bind fun t116 => ((frame_four.f (wrap64 (Go.bits .xor .u32 4294967295 t116))).bind fun t117 => (if y112.length + t117.length < 140737488355328 then ((some (y112 ++ t117 : List Int)).bind fun y120 => (if y120.length + b.length < 140737488355328 then (some ((y120 ++ b), 0)) else (none))) else (none)))))) else (none)))))) (fun k => ?_) ?_
  · simp only [frame_Put.j0]
    rw [if_neg (by decide)]
  · have a1 : ¬ (b.length : Int) > 1048576 := by omega
    refine ev_if_neg a1 (ev_some_bind (ev_one_bind (four_ev _) (ev_if_pos (by rw [four_len, List.length_singleton]; decide) (ev_some_bind ?_))))
    rw [e0]
    refine Ev.bind m1 (Ev.bind m2 ?_)
    rw [not32 c2, hsum, w64n hlt]
    refine ev_one_bind (four_ev _) (ev_if_pos (by rw [four_len, hd_len]; decide) (ev_some_bind (ev_if_pos ?_ (Ev.now _))))
    rw [List.length_append, hd_len, four_len]
    clear hsum hlt m1 m2 c1 c2
    omega
theorem put_ev (kind : Int) (b : List Int) (h0 : 0 ≤ kind) (h1 : kind ≤ 255) (hb : ∀ x ∈ b, 0 ≤ x ∧ x ≤ 255) (hn : b.length ≤ 1048576) : Ev (fun k => frame_Put.f k kind b) (fput kind b, 0) := by
  unfold frame_Put.f
  refine ev_if_neg (by omega) ?_
  rw [decide_eq_false (by omega)]
  exact put_j0 kind b h0 h1 hb hn
theorem pay_parts (h r : List Int) (n : Nat) (hh : h.length = 5) (hn : n < 4294967296) (hp : h.drop 1 = four n) : pay (h ++ r) = n := by
  unfold pay
  rw [List.take_append_of_le_length (by omega), List.take_of_length_le (by omega), hp, num4_four hn]
theorem fget_parts (h q b more : List Int) (hh : h.length = 5) (hq : q.length = 4) (hb : b.length ≤ 1048576) (hp : h.drop 1 = four b.length) :
    fget (h ++ q ++ b ++ more) = if sumL (h ++ b) = num4 q then (rd h 0, b, ((9 + b.length : Nat) : Int), 0) else (0, [], 0, 5) := by
  have hlen : (h ++ q ++ b ++ more).length = 9 + b.length + more.length := by simp only [List.length_append]; omega
  have hpay : pay (h ++ q ++ b ++ more) = b.length := by
    rw [List.append_assoc, List.append_assoc]
    exact pay_parts h _ _ hh (by omega) hp
  have t5 : (h ++ q ++ b ++ more).take 5 = h := by
    rw [List.append_assoc, List.append_assoc, List.take_append_of_le_length (by omega), List.take_of_length_le (by omega)]
  have t9 : ((h ++ q ++ b ++ more).take 9).drop 5 = q := by
    rw [List.append_assoc, List.take_append_of_le_length (by simp; omega), List.take_of_length_le (by simp; omega), List.drop_append_of_le_length (by omega), List.drop_of_length_le (by omega), List.nil_append]
  have tb : ((h ++ q ++ b ++ more).take (9 + b.length)).drop 9 = b := by
    rw [List.take_append_of_le_length (by simp; omega), List.take_of_length_le (by simp; omega), List.drop_append_of_le_length (by simp; omega), List.drop_of_length_le (by simp; omega), List.nil_append]
  have hr : rd (h ++ q ++ b ++ more) 0 = rd h 0 := by
    unfold rd
    rw [List.append_assoc, List.append_assoc, List.getD_eq_getElem?_getD, List.getD_eq_getElem?_getD, List.getElem?_append_left (by simp; omega)]
  unfold fget
  rw [hpay, hlen, t5, t9, tb, hr]
  have c1 : ¬ 9 + b.length + more.length < 9 := by omega
  have c2 : ¬ b.length > 1048576 := by omega
  have c3 : ¬ 9 + b.length > 9 + b.length + more.length := by omega
  rw [if_neg c1, if_neg c2, if_neg c3]
theorem fget_fput (kind : Int) (b more : List Int) (hb : b.length ≤ 1048576) (hs : sumL (hd kind b ++ b) < 4294967296) : fget (fput kind b ++ more) = (kind, b, ((9 + b.length : Nat) : Int), 0) := by
  unfold fput
  rw [fget_parts _ _ _ _ (hd_len _ _) (four_len _) hb rfl, num4_four hs, if_pos rfl]
  rfl
theorem fget_cases (b : List Int) : fget b = (0, [], 0, 5) ∨ ∃ (kd : Int) (p : List Int) (n : Nat), fget b = (kd, p, (n : Int), 0) ∧ 9 ≤ n ∧ n ≤ b.length ∧ p.length ≤ b.length := by
  unfold fget
  by_cases h1 : b.length < 9
  · exact .inl (if_pos h1)
  rw [if_neg h1]
  by_cases h2 : pay b > 1048576
  · exact .inl (if_pos h2)
  rw [if_neg h2]
  by_cases h3 : 9 + pay b > b.length
  · exact .inl (if_pos h3)
  rw [if_neg h3]
  by_cases h4 : sumL (b.take 5 ++ (b.take (9 + pay b)).drop 9) = num4 ((b.take 9).drop 5)
  · exact .inr ⟨_, _, 9 + pay b, if_pos h4, by omega, by omega, by rw [List.length_drop, List.length_take]; omega⟩
  · exact .inl (if_neg h4)
theorem fget_len (b : List Int) : (fget b).2.1.length ≤ b.length := by
  rcases fget_cases b with h | ⟨kd, p, n, h, _, _, hp⟩
  · rw [h]; exact Nat.zero_le _
  · rw [h]; exact hp
/-- The frames that lie at the head of b, and how many bytes they are. -/
def frL : Nat → List Int → List S34 × Nat
  | 0, _ => ([], 0)
  | n + 1, b => if (fget b).2.2.2 = 0 then (⟨(fget b).1, (fget b).2.1⟩ :: (frL n (b.drop (fget b).2.2.1.toNat)).1, (fget b).2.2.1.toNat + (frL n (b.drop (fget b).2.2.1.toNat)).2) else ([], 0)
theorem frL_len : ∀ (n : Nat) (b : List Int), (frL n b).1.length ≤ n
  | 0, b => Nat.le_refl _
  | n + 1, b => by
    unfold frL
    split
    · rw [List.length_cons]
      have := frL_len n (b.drop (fget b).2.2.1.toNat)
      omega
    · exact Nat.zero_le _
theorem all_l0 : ∀ (n : Nat) (b : List Int) (acc : List S34) (p : Nat), (∀ x ∈ b, 0 ≤ x ∧ x ≤ 255) → b.length ≤ n → p + b.length ≤ 100000 → acc.length ≤ p →
    Ev (fun k => frame_All.l0 k b acc (p : Int)) (acc ++ (frL n b).1, ((p + (frL n b).2 : Nat) : Int)) := by
  intro n
  induction n with
  | zero =>
    intro b acc p hb hn hp ha
    have hg := get_ev b hb (by omega)
    rcases fget_cases b with h | ⟨kd, q, m, h, h9, hm, _⟩
    · rw [h] at hg
      refine Ev.step (f := fun k => (frame_Get.f k b).bind fun g => if g.2.2.2 = 0 then (if 0 ≤ g.2.2.1 ∧ g.2.2.1 ≤ (b.length : Int) ∧ acc.length < 1000000000 then frame_All.l0 k (b.drop g.2.2.1.toNat) (acc ++ [⟨g.1, g.2.1⟩]) (wrap64 ((p : Int) + g.2.2.1)) else none) else some (acc, (p : Int))) (fun k => rfl) ?_
      refine Ev.bind hg (ev_if_neg (by decide) ?_)
      unfold frL
      rw [List.append_nil, Nat.add_zero]
      exact Ev.now _
    · omega
  | succ n ih =>
    intro b acc p hb hn hp ha
    have hg := get_ev b hb (by omega)
    refine Ev.step (f := fun k => (frame_Get.f k b).bind fun g => if g.2.2.2 = 0 then (if 0 ≤ g.2.2.1 ∧ g.2.2.1 ≤ (b.length : Int) ∧ acc.length < 1000000000 then frame_All.l0 k (b.drop g.2.2.1.toNat) (acc ++ [⟨g.1, g.2.1⟩]) (wrap64 ((p : Int) + g.2.2.1)) else none) else some (acc, (p : Int))) (fun k => rfl) ?_
    unfold frL
    rcases fget_cases b with h | ⟨kd, q, m, h, h9, hm, _⟩
    · rw [h] at hg ⊢
      rw [if_neg (by decide), List.append_nil, Nat.add_zero]
      exact Ev.bind hg (ev_if_neg (by decide) (Ev.now _))
    · rw [h] at hg ⊢
      rw [if_pos rfl]
      dsimp only
      rw [Int.toNat_natCast]
      refine Ev.bind hg ?_
      dsimp only
      refine ev_if_pos rfl (ev_if_pos ⟨by omega, by omega, by omega⟩ ?_)
      have e : wrap64 ((p : Int) + (m : Int)) = ((p + m : Nat) : Int) := by rw [w64 (by omega) (by omega)]; omega
      rw [Int.toNat_natCast, e]
      have hd : (b.drop m).length = b.length - m := List.length_drop
      have z := ih (b.drop m) (acc ++ [⟨kd, q⟩]) (p + m) (fun x hx => hb x (List.mem_of_mem_drop hx)) (by omega) (by omega) (by rw [List.length_append, List.length_singleton]; omega)
      rw [List.append_assoc, List.singleton_append, Nat.add_assoc] at z
      exact z
theorem all_ev (b : List Int) (hb : ∀ x ∈ b, 0 ≤ x ∧ x ≤ 255) (hn : b.length ≤ 100000) : Ev (fun k => frame_All.f k b) ((frL b.length b).1, (((frL b.length b).2 : Nat) : Int)) := by
  have z := all_l0 b.length b [] 0 hb (Nat.le_refl _) (by omega) (Nat.zero_le _)
  rw [List.nil_append, Nat.zero_add] at z
  exact z
theorem fget_cut (kind : Int) (b : List Int) (hb : b.length ≤ 1048576) (c : Nat) (hc : c < 9 + b.length) : fget ((fput kind b).take c) = (0, [], 0, 5) := by
  have hl : ((fput kind b).take c).length = c := by rw [List.length_take, fput_len]; omega
  unfold fget
  rw [hl]
  by_cases h9 : c < 9
  · rw [if_pos h9]
  · have hp : pay ((fput kind b).take c) = b.length := by
      have : (fput kind b).take c = hd kind b ++ (four (sumL (hd kind b ++ b)) ++ b).take (c - 5) := by
        unfold fput
        rw [List.append_assoc, List.take_append, hd_len, List.take_of_length_le (by rw [hd_len]; omega)]
      rw [this]
      exact pay_parts _ _ _ (hd_len _ _) (by omega) rfl
    have c2 : ¬ b.length > 1048576 := by omega
    have c3 : 9 + b.length > c := by omega
    rw [if_neg h9, hp, if_neg c2, if_pos c3]

/-! ### frames one behind the other -/
def good (r : S34) : Prop := 0 ≤ r.f0 ∧ r.f0 ≤ 255 ∧ r.f1.length ≤ 500 ∧ ∀ x ∈ r.f1, 0 ≤ x ∧ x ≤ 255
def cat : List S34 → List Int
  | [] => []
  | r :: l => fput r.f0 r.f1 ++ cat l
def lens : List S34 → Nat
  | [] => 0
  | r :: l => 9 + r.f1.length + lens l
def ncut : List S34 → Nat → Nat
  | [], _ => 0
  | r :: l, c => if 9 + r.f1.length ≤ c then ncut l (c - (9 + r.f1.length)) + 1 else 0
theorem cat_len : ∀ l : List S34, (cat l).length = lens l
  | [] => rfl
  | r :: l => by rw [cat, lens, List.length_append, fput_len, cat_len l]
theorem cat_range : ∀ l : List S34, (∀ r ∈ l, good r) → ∀ x ∈ cat l, 0 ≤ x ∧ x ≤ 255
  | [], _ => fun x hx => by simp [cat] at hx
  | r :: l, h => fun x hx => by
    rcases List.mem_append.1 hx with hx | hx
    · obtain ⟨h0, h1, _, hb⟩ := h r List.mem_cons_self
      exact fput_range h0 h1 hb x hx
    · exact cat_range l (fun r hr => h r (List.mem_cons_of_mem _ hr)) x hx
theorem lens_le : ∀ l : List S34, (∀ r ∈ l, good r) → lens l ≤ 509 * l.length
  | [], _ => Nat.zero_le _
  | r :: l, h => by
    have h1 := (h r List.mem_cons_self).2.2.1
    have h2 := lens_le l (fun r hr => h r (List.mem_cons_of_mem _ hr))
    rw [lens, List.length_cons]
    omega
theorem cat_snoc : ∀ (l : List S34) (r : S34), cat (l ++ [r]) = cat l ++ fput r.f0 r.f1
  | [], r => by simp [cat]
  | a :: l, r => by rw [List.cons_append, cat, cat, cat_snoc l r, List.append_assoc]
theorem lens_snoc (l : List S34) (r : S34) : lens (l ++ [r]) = lens l + (9 + r.f1.length) := by
  rw [← cat_len, cat_snoc, List.length_append, fput_len, cat_len]
theorem ncut_le : ∀ (l : List S34) (c : Nat), ncut l c ≤ l.length
  | [], _ => Nat.le_refl _
  | r :: l, c => by
    unfold ncut
    split
    · have := ncut_le l (c - (9 + r.f1.length)); rw [List.length_cons]; omega
    · exact Nat.zero_le _
theorem ncut_iff : ∀ (l : List S34) (c n : Nat), n < l.length → (n < ncut l c ↔ lens (l.take (n + 1)) ≤ c)
  | [], c, n, h => by simp at h
  | r :: l, c, 0, h => by
    rw [List.take_succ_cons, List.take_zero, lens, lens, ncut]
    split <;> omega
  | r :: l, c, n + 1, h => by
    have ih := ncut_iff l (c - (9 + r.f1.length)) n (by simpa using h)
    rw [List.take_succ_cons, lens, ncut]
    split
    · omega
    · omega
theorem fget_nil : fget [] = (0, [], 0, 5) := by
  unfold fget
  exact if_pos (by simp)
theorem frL_cat : ∀ (l : List S34), (∀ r ∈ l, good r) → ∀ (c n : Nat), c ≤ lens l → c ≤ n → frL n ((cat l).take c) = (l.take (ncut l c), lens (l.take (ncut l c)))
  | [], _, c, n, hc, hn => by
    have hz : frL n [] = ([], 0) := by
      cases n with
      | zero => rfl
      | succ n => unfold frL; rw [fget_nil]; rfl
    rw [cat, List.take_nil, hz]
    simp [ncut, lens]
  | r :: l, hg, c, n, hc, hn => by
    obtain ⟨h0, h1, h2, hb⟩ := hg r List.mem_cons_self
    have ih := frL_cat l (fun r hr => hg r (List.mem_cons_of_mem _ hr))
    rw [cat, ncut]
    have hf := fput_len r.f0 r.f1
    by_cases hcut : 9 + r.f1.length ≤ c
    · rw [if_pos hcut]
      obtain ⟨n, rfl⟩ : ∃ m, n = m + 1 := ⟨n - 1, by omega⟩
      have hs : sumL (hd r.f0 r.f1 ++ r.f1) < 4294967296 := sumL_lt (fun x hx => (List.mem_append.1 hx).elim (hd_range r.f1 h0 h1 x) (hb x))
      have ht : (fput r.f0 r.f1 ++ cat l).take c = fput r.f0 r.f1 ++ (cat l).take (c - (9 + r.f1.length)) := by
        rw [List.take_append, hf, List.take_of_length_le (by clear hs; omega)]
      have hfg := fget_fput r.f0 r.f1 ((cat l).take (c - (9 + r.f1.length))) (by clear hs; omega) hs
      clear hs
      have hdr : (fput r.f0 r.f1 ++ (cat l).take (c - (9 + r.f1.length))).drop (9 + r.f1.length) = (cat l).take (c - (9 + r.f1.length)) := by
        rw [← hf, List.drop_left]
      rw [ht]
      unfold frL
      rw [hfg]
      dsimp only
      rw [if_pos rfl, Int.toNat_natCast, hdr, ih (c - (9 + r.f1.length)) n (by rw [lens] at hc; omega) (by omega)]
      rfl
    · rw [if_neg hcut]
      have ht : (fput r.f0 r.f1 ++ cat l).take c = (fput r.f0 r.f1).take c := List.take_append_of_le_length (by omega)
      rw [ht, List.take_zero, lens]
      have hz := fget_cut r.f0 r.f1 (by omega) c (by omega)
      cases n with
      | zero => rfl
      | succ n => unfold frL; rw [hz]; rfl
theorem rd34 {l : List S34} {i : Nat} (h : i < l.length) : rd_T34 l (i : Int) = l[i] := by
  unfold rd_T34
  rw [Int.toNat_natCast, List.getD_eq_getElem?_getD, List.getElem?_eq_getElem h]; rfl
def ends (l : List S34) : List Int := (List.range l.length).map fun j => ((lens (l.take (j + 1)) : Nat) : Int)
theorem ends_len (l : List S34) : (ends l).length = l.length := by simp [ends]
theorem ends_rd (l : List S34) (n : Nat) (h : n < l.length) : rd (ends l) (n : Int) = ((lens (l.take (n + 1)) : Nat) : Int) := by
  rw [rd_mem (by rw [ends_len]; exact h)]
  simp [ends]
theorem ends_snoc (l : List S34) (r : S34) : ends (l ++ [r]) = ends l ++ [((lens (l ++ [r]) : Nat) : Int)] := by
  unfold ends
  rw [List.length_append, List.length_singleton, List.range_succ, List.map_append, List.map_singleton]
  congr 1
  · refine List.map_congr_left fun j hj => ?_
    rw [List.take_append_of_le_length (by have := List.mem_range.1 hj; omega)]
  · rw [List.take_of_length_le (by simp)]
theorem rows_l2 (l : List S34) (N : Nat) (hN : N ≤ l.length) (hl : l.length ≤ 40) : ∀ (d i : Nat), i + d = N → Ev (fun k => lysimeterlaw9_FrameRows.l2 k l (N : Int) (l.take N) (i : Int)) true := by
  intro d
  induction d with
  | zero =>
    intro i hi
    refine Ev.step (f := fun _ => some true) (fun k => ?_) (Ev.now _)
    simp only [lysimeterlaw9_FrameRows.l2]
    rw [if_neg (by omega)]
  | succ d ih =>
    intro i hi
    refine Ev.step (f := fun k => lysimeterlaw9_FrameRows.l2 k l (N : Int) (l.take N) ((i + 1 : Nat) : Int)) (fun k => ?_) (ih (i + 1) (by omega))
    have e : wrap64 ((i : Int) + 1) = ((i + 1 : Nat) : Int) := by rw [w64 (by omega) (by omega)]; omega
    have hlt : (l.take N).length = N := by rw [List.length_take]; omega
    have e2 : rd_T34 (l.take N) (i : Int) = rd_T34 l (i : Int) := by
      rw [rd34 (by omega), rd34 (by omega), List.getElem_take]
    simp only [lysimeterlaw9_FrameRows.l2]
    rw [if_pos (by omega), if_pos (by omega), if_pos (by omega), if_pos (by omega), e2, if_pos rfl, if_pos rfl, e]
theorem rows_j5 (l : List S34) (hg : ∀ r ∈ l, good r) (hl : l.length ≤ 40) (c : Nat) (hc : c ≤ lens l) : Ev (fun k => lysimeterlaw9_FrameRows.j5 k l (c : Int) (cat l) ((ncut l c : Nat) : Int) ((lens (l.take (ncut l c)) : Nat) : Int)) true := by
  have hcl := cat_len l
  have hle := lens_le l hg
  have htl : ((cat l).take c).length = c := by rw [List.length_take]; omega
  have ha := all_ev ((cat l).take c) (fun x hx => cat_range l hg x (List.mem_of_mem_take hx)) (by omega)
  rw [htl, frL_cat l hg c c hc (Nat.le_refl _)] at ha
  have hn := ncut_le l c
  have e1 : ((l.take (ncut l c)).length : Int) = ((ncut l c : Nat) : Int) := by rw [List.length_take]; omega
  refine Ev.step (f := fun k => ((frame_All.f k ((cat l).take c)).bind fun bt166 => (if (bt166.1.length : Int) = ((ncut l c : Nat) : Int) then (lysimeterlaw9_FrameRows.j6 k l ((ncut l c : Nat) : Int) bt166.1 (bt166.2 != ((lens (l.take (ncut l c)) : Nat) : Int))) else (lysimeterlaw9_FrameRows.j6 k l ((ncut l c : Nat) : Int) bt166.1 true)))) (fun k => ?_) ?_
  · simp only [lysimeterlaw9_FrameRows.j5]
    rw [if_pos (by omega), if_pos (by omega), Int.toNat_natCast]
  refine Ev.bind ha (ev_if_pos e1 ?_)
  rw [show ∀ x : Int, (x != x) = false from fun x => by simp]
  refine Ev.step (f := fun k => lysimeterlaw9_FrameRows.l2 k l ((ncut l c : Nat) : Int) (l.take (ncut l c)) ((0 : Nat) : Int)) (fun k => ?_) (rows_l2 l _ hn hl (ncut l c) 0 (by omega))
  simp only [lysimeterlaw9_FrameRows.j6]
  rw [if_neg (by decide)]
  rfl
theorem rows_l1 (l : List S34) (hg : ∀ r ∈ l, good r) (hl : l.length ≤ 40) (c : Nat) (hc : c ≤ lens l) : ∀ (d i : Nat), i + d = ncut l c → Ev (fun k => lysimeterlaw9_FrameRows.l1 k l (c : Int) (cat l) (ends l) (i : Int) ((lens (l.take i) : Nat) : Int)) true := by
  have hn := ncut_le l c
  have hel := ends_len l
  intro d
  induction d with
  | zero =>
    intro i hi
    obtain rfl : i = ncut l c := by omega
    refine Ev.step (f := fun k => lysimeterlaw9_FrameRows.j5 k l (c : Int) (cat l) ((ncut l c : Nat) : Int) ((lens (l.take (ncut l c)) : Nat) : Int)) (fun k => ?_) (rows_j5 l hg hl c hc)
    simp only [lysimeterlaw9_FrameRows.l1]
    by_cases h : ncut l c < l.length
    · have h2 : ¬ lens (l.take (ncut l c + 1)) ≤ c := fun hh => Nat.lt_irrefl _ ((ncut_iff l c (ncut l c) h).2 hh)
      rw [if_pos (by omega), if_pos (by omega), ends_rd l _ h, if_neg (by omega)]
    · rw [if_neg (by omega)]
  | succ d ih =>
    intro i hi
    have h : i < l.length := by omega
    have h2 := (ncut_iff l c i h).1 (by omega)
    have e : wrap64 ((i : Int) + 1) = ((i + 1 : Nat) : Int) := by rw [w64 (by omega) (by omega)]; omega
    refine Ev.step (f := fun k => lysimeterlaw9_FrameRows.l1 k l (c : Int) (cat l) (ends l) ((i + 1 : Nat) : Int) ((lens (l.take (i + 1)) : Nat) : Int)) (fun k => ?_) (ih (i + 1) (by omega))
    simp only [lysimeterlaw9_FrameRows.l1]
    rw [if_pos (by omega), if_pos (by omega), ends_rd l _ h, if_pos (by omega), e]
theorem rows_l0 (l : List S34) (hl : l.length ≤ 40) (hb : ∀ r ∈ l, ∀ x ∈ r.f1, 0 ≤ x ∧ x ≤ 255) (a1 : Int) (ha : 0 ≤ a1) : ∀ (d i : Nat), i + d = l.length → (∀ r ∈ l.take i, good r) →
    Ev (fun k => lysimeterlaw9_FrameRows.l0 k l a1 (cat (l.take i)) (ends (l.take i)) (i : Int)) true := by
  intro d
  induction d with
  | zero =>
    intro i hi hg
    rw [List.take_of_length_le (by omega)] at hg ⊢
    have hcl := cat_len l
    obtain ⟨c, hc1, hc2⟩ : ∃ c : Nat, c ≤ lens l ∧ (if a1 > ((cat l).length : Int) then ((cat l).length : Int) else a1) = (c : Int) := by
      by_cases h : a1 > ((cat l).length : Int)
      · exact ⟨(cat l).length, by omega, if_pos h⟩
      · exact ⟨a1.toNat, by omega, by rw [if_neg h]; omega⟩
    refine Ev.step (f := fun k => lysimeterlaw9_FrameRows.j3 k l (c : Int) (cat l) (ends l)) (fun k => ?_) ?_
    · simp only [lysimeterlaw9_FrameRows.l0]
      rw [if_neg (by omega)]
      rw [← hc2]
      split <;> rfl
    refine Ev.step (f := fun k => lysimeterlaw9_FrameRows.l1 k l (c : Int) (cat l) (ends l) ((0 : Nat) : Int) ((lens (l.take 0) : Nat) : Int)) (fun k => ?_) (rows_l1 l hg hl c hc1 (ncut l c) 0 (by omega))
    simp only [lysimeterlaw9_FrameRows.j3]
    rfl
  | succ d ih =>
    intro i hi hg
    have h : i < l.length := by omega
    have jt : ∀ (x6 x7 : List Int), Ev (fun k => lysimeterlaw9_FrameRows.j2 k l a1 x6 x7 (i : Int) true) true := fun x6 x7 => by
      refine Ev.step (f := fun _ => some true) (fun k => ?_) (Ev.now _)
      simp only [lysimeterlaw9_FrameRows.j2, if_true]
    by_cases hx : (l[i].f1.length : Int) > 500 ∨ l[i].f0 < 0 ∨ l[i].f0 > 255
    · refine Ev.step (f := fun k => lysimeterlaw9_FrameRows.j2 k l a1 (cat (l.take i)) (ends (l.take i)) (i : Int) true) (fun k => ?_) (jt _ _)
      simp only [lysimeterlaw9_FrameRows.l0]
      rw [if_pos (by omega), if_pos (by omega), rd34 h]
      by_cases h1 : (l[i].f1.length : Int) > 500
      · rw [if_pos h1]
      · rw [if_neg h1]
        by_cases h2 : l[i].f0 < 0
        · rw [if_pos h2]
        · rw [if_neg h2, decide_eq_true (by omega)]
    · have hgi : good l[i] := ⟨by omega, by omega, by omega, hb _ (List.getElem_mem h)⟩
      have htk : l.take (i + 1) = l.take i ++ [l[i]] := List.take_succ_eq_append_getElem h
      have hg2 : ∀ r ∈ l.take (i + 1), good r := by
        rw [htk]
        intro r hr
        rcases List.mem_append.1 hr with hr | hr
        · exact hg r hr
        · rw [List.mem_singleton.1 hr]; exact hgi
      have z := ih (i + 1) (by omega) hg2
      have e : wrap64 ((i : Int) + 1) = ((i + 1 : Nat) : Int) := by rw [w64 (by omega) (by omega)]; omega
      have hp := put_ev l[i].f0 l[i].f1 hgi.1 hgi.2.1 hgi.2.2.2 (by have := hgi.2.2.1; omega)
      have hle := lens_le _ hg
      have htl : (l.take i).length = i := by rw [List.length_take]; omega
      have hcl := cat_len (l.take i)
      have hfl := fput_len l[i].f0 l[i].f1
      have hle2 := hgi.2.2.1
      rw [htk, cat_snoc, ends_snoc, lens_snoc] at z
      have e3 : ((lens (l.take i) + (9 + l[i].f1.length) : Nat) : Int) = (((cat (l.take i) ++ fput l[i].f0 l[i].f1).length : Nat) : Int) := by rw [List.length_append, hfl, hcl]
      rw [e3] at z
      have a1_ : (cat (l.take i)).length + (fput l[i].f0 l[i].f1).length < 140737488355328 := by omega
      have a2_ : (ends (l.take i)).length < 17592186044416 := by rw [ends_len]; omega
      refine Ev.step (f := fun k => lysimeterlaw9_FrameRows.j2 k l a1 (cat (l.take i)) (ends (l.take i)) (i : Int) false) (fun k => ?_) ?_
      · simp only [lysimeterlaw9_FrameRows.l0]
        rw [if_pos (by omega), if_pos (by omega), rd34 h, if_neg (by omega), if_neg (by omega), decide_eq_false (by omega)]
      refine Ev.step (f := fun k => ((frame_Put.f k l[i].f0 l[i].f1).bind fun bt149 => ((lysimeterlaw9_num.f bt149.2).bind fun t153 => (if t153 = 0 then (if (cat (l.take i)).length + bt149.1.length < 140737488355328 then ((some ((cat (l.take i)) ++ bt149.1 : List Int)).bind fun y154 => (if (ends (l.take i)).length < 17592186044416 then (lysimeterlaw9_FrameRows.l0 k l a1 y154 ((ends (l.take i)) ++ [(y154.length : Int)]) ((i + 1 : Nat) : Int)) else (none))) else (none)) else (some false))))) (fun k => ?_) ?_
      · simp only [lysimeterlaw9_FrameRows.j2]
        rw [if_neg (by decide), if_pos (by omega), if_pos (by omega), rd34 h, e]
      exact Ev.bind hp (ev_one_bind (num9_ev _) (ev_if_pos rfl (ev_if_pos a1_ (ev_some_bind (ev_if_pos a2_ z)))))
theorem FrameRows : lysimeterlaw9_FrameRows.Pure := by
  intro l a1 hm hw
  have hb : ∀ r ∈ l, ∀ x ∈ r.f1, 0 ≤ x ∧ x ≤ 255 := fun r hr x hx => wf_u8 ((hm.2 r hr).2.2 x hx)
  refine Ev.rounds (r := true) (g := fun k => lysimeterlaw9_FrameRows.f k l a1) ?_
  have jt : Ev (fun k => lysimeterlaw9_FrameRows.j0 k l a1 true true) true := by
    refine Ev.step (f := fun _ => some true) (fun k => ?_) (Ev.now _)
    simp only [lysimeterlaw9_FrameRows.j0, if_true]
  unfold lysimeterlaw9_FrameRows.f
  refine Ev.bind alive9_ev (ev_if_pos rfl ?_)
  by_cases c : (l.length : Int) > 40
  · exact ev_if_pos c jt
  refine ev_if_neg c ?_
  by_cases c2 : a1 < 0
  · rw [decide_eq_true c2]; exact jt
  rw [decide_eq_false c2]
  refine Ev.step (f := fun k => lysimeterlaw9_FrameRows.l0 k l a1 (cat (l.take 0)) (ends (l.take 0)) ((0 : Nat) : Int)) (fun k => ?_) (rows_l0 l (by omega) hb a1 (by omega) l.length 0 (by omega) (fun r hr => by simp at hr))
  simp only [lysimeterlaw9_FrameRows.j0]
  rw [if_neg (by decide)]
  rfl

end Go.Proofs.Ytjilnpbgclnecab.Pure
