/- The frame that the program's frame.Put tells of all bytes, or why there is none, is the reference's; what was handed in stays; and frame.Get reads it again with anything behind it (statement FramePuts); no condition. -/
import Derived.Test.YtjilnpbgclnecaaPFramePutsx3
import Derived.Test.YtjilnpbgclnecaaXPure
set_option linter.unusedVariables false
set_option linter.unusedSimpArgs false
namespace Go.Proofs.Ytjilnpbgclnecaa.Pure
open Go Go.RowKit Go.Proofs.Ytjilnpbgclnecaa.PFramePuts Go.Proofs.Ytjilnpbgclnecaa.XP Go.Proofs.YtjilnpbgclnecaaW.PrintWords Go.Proofs.YtjilnpbgclnecaaW.PrintLast Go.Proofs.YtjilnpbgclnecaaW.PrintMore

/-! ### the sum -/
def step1 (c : Nat) : Nat := if c % 2 = 0 then c / 2 else (c / 2) ^^^ 2197175160
def steps : Nat → Nat → Nat
  | 0, c => c
  | n + 1, c => steps n (step1 c)
def crcB (c : Nat) (b : Int) : Nat := steps 8 (c ^^^ b.toNat)
def crcL (c : Nat) (l : List Int) : Nat := l.foldl crcB c
theorem step1_lt {c : Nat} (h : c < 4294967296) : step1 c < 4294967296 := by
  unfold step1
  split
  · omega
  · exact Nat.xor_lt_two_pow (n := 32) (by omega) (by omega)
theorem steps_lt (n : Nat) : ∀ {c : Nat}, c < 4294967296 → steps n c < 4294967296 := by
  induction n with
  | zero => intro c h; exact h
  | succ n ih => intro c h; exact ih (step1_lt h)
theorem crcB_lt {c : Nat} {b : Int} (h : c < 4294967296) (h0 : 0 ≤ b) (h1 : b ≤ 255) : crcB c b < 4294967296 :=
  steps_lt 8 (Nat.xor_lt_two_pow (n := 32) (by omega) (by omega))
theorem crcL_lt (l : List Int) : ∀ {c : Nat}, c < 4294967296 → (∀ x ∈ l, 0 ≤ x ∧ x ≤ 255) → crcL c l < 4294967296 := by
  induction l with
  | nil => intro c h _; exact h
  | cons b l ih =>
    intro c h hl
    exact ih (crcB_lt h (hl b List.mem_cons_self).1 (hl b List.mem_cons_self).2) (fun x hx => hl x (List.mem_cons_of_mem _ hx))
theorem crcL_append (c : Nat) (l m : List Int) : crcL c (l ++ m) = crcL (crcL c l) m := List.foldl_append
theorem rd_mem {l : List Int} {i : Nat} (h : i < l.length) : rd l (i : Int) = l[i] := by
  unfold rd
  rw [Int.toNat_natCast, List.getD_eq_getElem?_getD, List.getElem?_eq_getElem h]; rfl

theorem more_l1 (l : List Int) (n i : Int) (r : Int) : ∀ (j : Nat) (c : Nat), j ≤ 8 → c < 4294967296 → Ev (fun k => frame_more.l0 k ((steps j c : Nat) : Int) l n (wrap64 (i + 1))) r →
    Ev (fun k => frame_more.l1 k (c : Int) l n i ((8 - j : Nat) : Int)) r := by
  intro j
  induction j with
  | zero =>
    intro c _ _ h
    refine Ev.step (f := fun k => frame_more.l0 k (c : Int) l n (wrap64 (i + 1))) (fun k => ?_) h
    simp only [frame_more.l1]
    rw [if_neg (by omega)]
  | succ j ih =>
    intro c hj hc h
    have hw : wrap64 (((8 - (j + 1) : Nat) : Int) + 1) = ((8 - j : Nat) : Int) := by unfold wrap64; omega
    have hb : Go.bits .and .u32 (c : Int) 1 = ((c % 2 : Nat) : Int) := by
      rw [show (1 : Int) = ((1 : Nat) : Int) from rfl, u32_and_nat c 1 hc (by decide), nat_mask1]
    have hd : ((c : Int) / 2) = ((c / 2 : Nat) : Int) := by omega
    have hx : Go.bits .xor .u32 ((c / 2 : Nat) : Int) 2197175160 = (((c / 2) ^^^ 2197175160 : Nat) : Int) := by
      rw [show (2197175160 : Int) = ((2197175160 : Nat) : Int) from rfl, u32_xor_nat _ _ (by omega) (by decide)]
    refine Ev.step (f := fun k => frame_more.l1 k ((step1 c : Nat) : Int) l n i ((8 - j : Nat) : Int)) (fun k => ?_) (ih (step1 c) (by omega) (step1_lt hc) h)
    simp only [frame_more.l1]
    rw [if_pos (by omega), hb, hw, hd, hx]
    unfold step1
    by_cases e : c % 2 = 0
    · rw [if_pos (by omega), if_pos e]
    · rw [if_neg (by omega), if_neg e]
theorem more_l0 (l : List Int) (hl : ∀ x ∈ l, 0 ≤ x ∧ x ≤ 255) (hn : l.length ≤ 140737488351232) : ∀ (d i c : Nat), i + d = l.length → c < 4294967296 →
    Ev (fun k => frame_more.l0 k (c : Int) l (l.length : Int) (i : Int)) ((crcL c (l.drop i) : Nat) : Int) := by
  intro d
  induction d with
  | zero =>
    intro i c hi hc
    refine Ev.step (f := fun _ => some (c : Int)) (fun k => ?_) ?_
    · simp only [frame_more.l0]
      rw [if_neg (by omega)]
    · rw [List.drop_of_length_le (by omega)]
      exact Ev.now _
  | succ d ih =>
    intro i c hi hc
    have hlt : i < l.length := by omega
    have hm := hl l[i] (List.getElem_mem hlt)
    have hb : (l[i] % 4294967296) = ((l[i].toNat : Nat) : Int) := by omega
    have hx : Go.bits .xor .u32 (c : Int) ((l[i].toNat : Nat) : Int) = ((c ^^^ l[i].toNat : Nat) : Int) := u32_xor_nat _ _ hc (by omega)
    have hlt2 : c ^^^ l[i].toNat < 4294967296 := Nat.xor_lt_two_pow (n := 32) (by omega) (by omega)
    refine Ev.step (f := fun k => frame_more.l1 k ((c ^^^ l[i].toNat : Nat) : Int) l (l.length : Int) (i : Int) ((8 - 8 : Nat) : Int)) (fun k => ?_) ?_
    · simp only [frame_more.l0]
      rw [if_pos (by omega), if_pos (by omega), if_pos (by omega), rd_mem hlt, hb, hx]
      rfl
    · refine more_l1 l _ _ _ 8 _ (Nat.le_refl _) hlt2 ?_
      have h1 := ih (i + 1) (crcB c l[i]) (by omega) (crcB_lt hc hm.1 hm.2)
      have hw : wrap64 ((i : Int) + 1) = ((i + 1 : Nat) : Int) := by unfold wrap64; omega
      rw [hw, List.drop_eq_getElem_cons hlt]
      exact h1
theorem more_ev (l : List Int) (hl : ∀ x ∈ l, 0 ≤ x ∧ x ≤ 255) (hn : l.length ≤ 140737488351232) (c : Nat) (hc : c < 4294967296) :
    Ev (fun k => frame_more.f k (c : Int) l) ((crcL c l : Nat) : Int) := more_l0 l hl hn l.length 0 c (by omega) hc
def sumL (l : List Int) : Nat := crcL 4294967295 l ^^^ 4294967295
theorem sumL_lt {l : List Int} (hl : ∀ x ∈ l, 0 ≤ x ∧ x ≤ 255) : sumL l < 4294967296 :=
  Nat.xor_lt_two_pow (n := 32) (crcL_lt l (by decide) hl) (by decide)
theorem not32 {c : Nat} (h : c < 4294967296) : Go.bits .xor .u32 4294967295 (c : Int) = ((c ^^^ 4294967295 : Nat) : Int) := by
  rw [show (4294967295 : Int) = ((4294967295 : Nat) : Int) from rfl, u32_xor_nat _ _ (by decide) h, Nat.xor_comm]
theorem sum_ev (l : List Int) (hl : ∀ x ∈ l, 0 ≤ x ∧ x ≤ 255) (hn : l.length ≤ 140737488351232) : Ev (fun k => frame_Sum.f k l) ((sumL l : Nat) : Int) := by
  have h := more_ev l hl hn 4294967295 (by decide)
  unfold frame_Sum.f
  refine Ev.bind h ?_
  have hs := sumL_lt hl
  rw [not32 (crcL_lt l (by decide) hl), w64 (by omega) (by unfold sumL at hs; omega)]
  exact Ev.now _
theorem alive9_ev : Ev (fun k => lysimeterlaw9_alive.f k) true := by
  unfold lysimeterlaw9_alive.f
  have h0 := sum_ev [] (by simp) (by simp)
  rw [show ((sumL [] : Nat) : Int) = 0 from by decide +kernel] at h0
  have h9 := sum_ev lysimeterlaw9_alive.nine (by decide) (by decide)
  rw [show ((sumL lysimeterlaw9_alive.nine : Nat) : Int) = 3808858755 from by decide +kernel] at h9
  refine Ev.bind h0 (ev_if_pos rfl (Ev.bind h9 ?_))
  exact Ev.now _
/-! ### the reference's sum -/
theorem ref_l1 (l : List Int) (i : Int) (r : Int) : ∀ (j : Nat) (c : Nat), j ≤ 8 → c < 4294967296 → Ev (fun k => lysimeterref4_Sum.l0 k l ((steps j c : Nat) : Int) (wrap64 (i + 1))) r →
    Ev (fun k => lysimeterref4_Sum.l1 k l (c : Int) i ((8 - j : Nat) : Int)) r := by
  intro j
  induction j with
  | zero =>
    intro c _ _ h
    refine Ev.step (f := fun k => lysimeterref4_Sum.l0 k l (c : Int) (wrap64 (i + 1))) (fun k => ?_) h
    simp only [lysimeterref4_Sum.l1]
    rw [if_neg (by omega)]
  | succ j ih =>
    intro c hj hc h
    have hw : wrap64 (((8 - (j + 1) : Nat) : Int) + 1) = ((8 - j : Nat) : Int) := by unfold wrap64; omega
    have hb : Go.bits .and .u64 (c : Int) 1 = ((c % 2 : Nat) : Int) := by
      rw [show (1 : Int) = ((1 : Nat) : Int) from rfl, u64_and_nat c 1 (by omega) (by decide), nat_mask1]
    have hd : ((c : Int) / 2) = ((c / 2 : Nat) : Int) := by omega
    have hx : Go.bits .xor .u64 ((c / 2 : Nat) : Int) 2197175160 = (((c / 2) ^^^ 2197175160 : Nat) : Int) := by
      rw [show (2197175160 : Int) = ((2197175160 : Nat) : Int) from rfl, u64_xor_nat _ _ (by omega) (by decide)]
    refine Ev.step (f := fun k => lysimeterref4_Sum.l1 k l ((step1 c : Nat) : Int) i ((8 - j : Nat) : Int)) (fun k => ?_) (ih (step1 c) (by omega) (step1_lt hc) h)
    simp only [lysimeterref4_Sum.l1]
    rw [if_pos (by omega), hb, hw, hd, hx]
    unfold step1
    by_cases e : c % 2 = 0
    · rw [if_neg (by omega), if_pos e]
    · rw [if_pos (by omega), if_neg e]
theorem ref_l0 (l : List Int) (hl : ∀ x ∈ l, 0 ≤ x ∧ x ≤ 255) (hn : l.length ≤ 140737488351232) : ∀ (d i c : Nat), i + d = l.length → c < 4294967296 →
    Ev (fun k => lysimeterref4_Sum.l0 k l (c : Int) (i : Int)) ((crcL c (l.drop i) ^^^ 4294967295 : Nat) : Int) := by
  intro d
  induction d with
  | zero =>
    intro i c hi hc
    have hx : Go.bits .xor .u64 (c : Int) 4294967295 = ((c ^^^ 4294967295 : Nat) : Int) := by
      rw [show (4294967295 : Int) = ((4294967295 : Nat) : Int) from rfl, u64_xor_nat _ _ (by omega) (by decide)]
    have hlt : c ^^^ 4294967295 < 4294967296 := Nat.xor_lt_two_pow (n := 32) hc (by decide)
    refine Ev.step (f := fun _ => some ((c ^^^ 4294967295 : Nat) : Int)) (fun k => ?_) ?_
    · simp only [lysimeterref4_Sum.l0]
      rw [if_neg (by omega), hx, w64 (by omega) (by omega)]
    · rw [List.drop_of_length_le (by omega)]
      exact Ev.now _
  | succ d ih =>
    intro i c hi hc
    have hlt : i < l.length := by omega
    have hm := hl l[i] (List.getElem_mem hlt)
    have hb : IntKind.u64.wrap l[i] = ((l[i].toNat : Nat) : Int) := by rw [wu64]; omega
    have hx : Go.bits .xor .u64 (c : Int) ((l[i].toNat : Nat) : Int) = ((c ^^^ l[i].toNat : Nat) : Int) := u64_xor_nat _ _ (by omega) (by omega)
    have hlt2 : c ^^^ l[i].toNat < 4294967296 := Nat.xor_lt_two_pow (n := 32) (by omega) (by omega)
    refine Ev.step (f := fun k => lysimeterref4_Sum.l1 k l ((c ^^^ l[i].toNat : Nat) : Int) (i : Int) ((8 - 8 : Nat) : Int)) (fun k => ?_) ?_
    · simp only [lysimeterref4_Sum.l0]
      rw [if_pos (by omega), if_pos (by omega), rd_mem hlt, hb, hx]
      rfl
    · refine ref_l1 l _ _ 8 _ (Nat.le_refl _) hlt2 ?_
      have h1 := ih (i + 1) (crcB c l[i]) (by omega) (crcB_lt hc hm.1 hm.2)
      have hw : wrap64 ((i : Int) + 1) = ((i + 1 : Nat) : Int) := by unfold wrap64; omega
      rw [hw, List.drop_eq_getElem_cons hlt]
      exact h1
theorem refsum_ev (l : List Int) (hl : ∀ x ∈ l, 0 ≤ x ∧ x ≤ 255) (hn : l.length ≤ 140737488351232) : Ev (fun k => lysimeterref4_Sum.f k l) ((sumL l : Nat) : Int) :=
  ref_l0 l hl hn l.length 0 4294967295 (by omega) (by decide)
/-! ### frames -/
def four (n : Nat) : List Int := [((n % 256 : Nat) : Int), ((n / 256 % 256 : Nat) : Int), ((n / 65536 % 256 : Nat) : Int), ((n / 16777216 % 256 : Nat) : Int)]
theorem four_len (n : Nat) : (four n).length = 4 := rfl
theorem four_range (n : Nat) : ∀ x ∈ four n, 0 ≤ x ∧ x ≤ 255 := by
  intro x hx
  simp only [four, List.mem_cons, List.not_mem_nil, or_false] at hx
  omega
def num4 (l : List Int) : Nat := (rd l 0).toNat + (rd l 1).toNat * 256 + (rd l 2).toNat * 65536 + (rd l 3).toNat * 16777216
theorem num4_four {n : Nat} (h : n < 4294967296) : num4 (four n) = n := by
  unfold num4 four rd
  simp
  omega
def hd (kind : Int) (b : List Int) : List Int := kind :: four b.length
def fput (kind : Int) (b : List Int) : List Int := hd kind b ++ four (sumL (hd kind b ++ b)) ++ b
theorem hd_len (kind : Int) (b : List Int) : (hd kind b).length = 5 := rfl
theorem fput_len (kind : Int) (b : List Int) : (fput kind b).length = 9 + b.length := by
  unfold fput
  rw [List.length_append, List.length_append, hd_len, four_len]
theorem hd_range {kind : Int} (b : List Int) (h0 : 0 ≤ kind) (h1 : kind ≤ 255) : ∀ x ∈ hd kind b, 0 ≤ x ∧ x ≤ 255 := by
  intro x hx
  rcases List.mem_cons.1 hx with rfl | hx
  · exact ⟨h0, h1⟩
  · exact four_range _ x hx
theorem fput_range {kind : Int} {b : List Int} (h0 : 0 ≤ kind) (h1 : kind ≤ 255) (hb : ∀ x ∈ b, 0 ≤ x ∧ x ≤ 255) : ∀ x ∈ fput kind b, 0 ≤ x ∧ x ≤ 255 := by
  intro x hx
  rcases List.mem_append.1 hx with hx | hx
  · rcases List.mem_append.1 hx with hx | hx
    · exact hd_range b h0 h1 x hx
    · exact four_range _ x hx
  · exact hb x hx
theorem four_ev (n : Nat) : frame_four.f (n : Int) = some (four n) := by
  unfold frame_four.f four
  have e1 : ((n : Int) % 256) = ((n % 256 : Nat) : Int) := by omega
  have e2 : ((n : Int) / 256 % 256) = ((n / 256 % 256 : Nat) : Int) := by omega
  have e3 : ((n : Int) / 65536 % 256) = ((n / 65536 % 256 : Nat) : Int) := by omega
  have e4 : ((n : Int) / 16777216 % 256) = ((n / 16777216 % 256 : Nat) : Int) := by omega
  rw [e1, e2, e3, e4]
theorem num9_ev (n : Int) : lysimeterlaw9_num.f n = some n := rfl
theorem rd_range {l : List Int} (hl : ∀ x ∈ l, 0 ≤ x ∧ x ≤ 255) (i : Int) : 0 ≤ rd l i ∧ rd l i ≤ 255 := by
  unfold rd
  rw [List.getD_eq_getElem?_getD]
  rcases Nat.lt_or_ge i.toNat l.length with h | h
  · rw [List.getElem?_eq_getElem h]
    exact hl _ (List.getElem_mem h)
  · rw [List.getElem?_eq_none h]
    simp
theorem or_i64 {a b : Nat} (k : Nat) (hk : k ≤ 63) (hb : b % 2 ^ k = 0) (ha : a < 2 ^ k) (hs : a + b < 9223372036854775808) : Go.bits .or .i64 (a : Int) (b : Int) = ((a + b : Nat) : Int) := by
  show IntKind.i64.wrap ((BitVec.ofInt 64 (a : Int) ||| BitVec.ofInt 64 (b : Int)).toNat : Int) = _
  rw [BitVec.toNat_or, BitVec.ofInt_natCast, BitVec.ofInt_natCast, BitVec.toNat_ofNat, BitVec.toNat_ofNat, Nat.mod_eq_of_lt (by omega), Nat.mod_eq_of_lt (by omega), Nat.or_comm, nat_join k b a hb ha, IntKind.wrap_i64]
  omega
theorem number_ev {l : List Int} (hl : ∀ x ∈ l, 0 ≤ x ∧ x ≤ 255) (hn : 4 ≤ l.length) : frame_number.f l = some ((num4 l : Nat) : Int) := by
  have r0 := rd_range hl 0
  have r1 := rd_range hl 1
  have r2 := rd_range hl 2
  have r3 := rd_range hl 3
  unfold frame_number.f num4
  rw [if_pos (by omega), if_pos (by omega), if_pos (by omega), if_pos (by omega)]
  generalize rd l 0 = a at *
  generalize rd l 1 = b at *
  generalize rd l 2 = c at *
  generalize rd l 3 = d at *
  obtain ⟨a, rfl⟩ := Int.eq_ofNat_of_zero_le r0.1
  obtain ⟨b, rfl⟩ := Int.eq_ofNat_of_zero_le r1.1
  obtain ⟨c, rfl⟩ := Int.eq_ofNat_of_zero_le r2.1
  obtain ⟨d, rfl⟩ := Int.eq_ofNat_of_zero_le r3.1
  simp only [Int.toNat_natCast]
  rw [w64 (x := (a : Int)) (by omega) (by omega), w64 (x := (b : Int)) (by omega) (by omega), w64 (x := (c : Int)) (by omega) (by omega), w64 (x := (d : Int)) (by omega) (by omega)]
  have e1 : wrap64 ((b : Int) * 256) = ((b * 256 : Nat) : Int) := by rw [w64 (by omega) (by omega)]; omega
  have e2 : wrap64 ((c : Int) * 65536) = ((c * 65536 : Nat) : Int) := by rw [w64 (by omega) (by omega)]; omega
  have e3 : wrap64 ((d : Int) * 16777216) = ((d * 16777216 : Nat) : Int) := by rw [w64 (by omega) (by omega)]; omega
  rw [e1, e2, e3, or_i64 8 (by decide) (by omega) (by omega) (by omega), or_i64 16 (by decide) (by omega) (by omega) (by omega), or_i64 24 (by decide) (by omega) (by omega) (by omega)]
def pay (l : List Int) : Nat := num4 ((l.take 5).drop 1)
def fsum (l : List Int) : Nat := sumL (l.take 5 ++ (l.take (9 + pay l)).drop 9)
def fgood (l : List Int) : Prop := 9 ≤ l.length ∧ pay l ≤ 1048576 ∧ 9 + pay l ≤ l.length ∧ fsum l = num4 ((l.take 9).drop 5)
theorem clone_byte {l : List Int} (h : l.length < 140737488355328) : slices_Clone_byte_byte.f l = some l := by
  unfold slices_Clone_byte_byte.f
  rw [if_pos]
  omega
/-- Frame.Get up to its sums: n is the payload's length. -/
theorem get_j0 (l : List Int) (hl : ∀ x ∈ l, 0 ≤ x ∧ x ≤ 255) (hn : l.length ≤ 140737488351232) (n : Nat) (h9 : 9 + n ≤ l.length) (r : Int × List Int × Int × Int)
    (hr : r = if sumL (l.take 5 ++ (l.take (9 + n)).drop 9) = num4 ((l.take 9).drop 5) then (rd l 0, (l.take (9 + n)).drop 9, ((9 + n : Nat) : Int), 0) else (0, [], 0, 5)) :
    Ev (fun k => frame_Get.j0 k l (n : Int) false) r := by
  have hsub : ∀ (a b : Nat), ∀ x ∈ (l.take a).drop b, 0 ≤ x ∧ x ≤ 255 := fun a b x hx => hl x (List.mem_of_mem_take (List.mem_of_mem_drop hx))
  have h9w : wrap64 (9 + (n : Int)) = ((9 + n : Nat) : Int) := by rw [w64 (by omega) (by omega)]; omega
  have a1 : (5 : Int) ≤ (l.length : Int) := by omega
  have a2 : (9 : Int) ≤ ((9 + n : Nat) : Int) := by omega
  have a3 : ((9 + n : Nat) : Int) ≤ (l.length : Int) := by omega
  have a4 : (9 : Int) ≤ (l.length : Int) := by omega
  have a5 : (0 : Int) < (l.length : Int) := by omega
  have a6 : (l.take 5).length ≤ 140737488351232 := by rw [List.length_take]; omega
  have a7 : ((l.take (9 + n)).drop 9).length ≤ 140737488351232 := by rw [List.length_drop, List.length_take]; omega
  have a8 : ((l.take (9 + n)).drop 9).length < 140737488355328 := by omega
  have a9 := rd_range hl 0
  have b0 : wrap64 (rd l 0) = rd l 0 := w64 (by omega) (by omega)
  have nev := number_ev (hsub 9 5) (by rw [List.length_drop, List.length_take]; omega)
  have m1 := more_ev (l.take 5) (fun x hx => hl x (List.mem_of_mem_take hx)) a6 4294967295 (by decide)
  have c1 := crcL_lt (c := 4294967295) (l.take 5) (by decide) (fun x hx => hl x (List.mem_of_mem_take hx))
  have m2 := more_ev ((l.take (9 + n)).drop 9) (hsub _ _) a7 _ c1
  have c2 := crcL_lt (c := crcL 4294967295 (l.take 5)) ((l.take (9 + n)).drop 9) c1 (hsub _ _)
  have hsum : crcL (crcL 4294967295 (l.take 5)) ((l.take (9 + n)).drop 9) ^^^ 4294967295 = sumL (l.take 5 ++ (l.take (9 + n)).drop 9) := by unfold sumL; rw [crcL_append]
  have hlt : sumL (l.take 5 ++ (l.take (9 + n)).drop 9) < 4294967296 := sumL_lt (fun x hx => (List.mem_append.1 hx).elim (fun h => hl x (List.mem_of_mem_take h)) (hsub _ _ x))
  refine Ev.step (f := fun k => (if 5 ≤ (l.length : Int) then ((frame_more.f k 4294967295 (l.take 5)).bind fun t133 => (if 9 ≤ (wrap64 (9 + (n : Int))) then (if (wrap64 (9 + (n : Int))) ≤ (l.length : Int) then ((frame_more.f k t133 ((l.take ((wrap64 (9 + (n : Int))) : Int).toNat).drop 9)).bind fun t135 => (if 5 ≤ 9 then (if 9 ≤ (l.length : Int) then ((frame_number.f ((l.take 9).drop 5)).bind fun t137 => (if (wrap64 (Go.bits .xor .u32 4294967295 t135)) = t137 then (if 0 < (l.length : Int) then ((slices_Clone_byte_byte.f ((l.take ((wrap64 (9 + (n : Int))) : Int).toNat).drop 9)).bind fun t140 => (some (wrap64 (rd l 0), t140, wrap64 (9 + (n : Int)), 0))) else (none)) else (some (0, ([] : List Int), 0, 5)))) else (none)) else (none))) else (none)) else (none))) else (none))) (fun k => ?_) ?_
  · simp only [frame_Get.j0]
    rw [if_neg (by decide)]
  · refine ev_if_pos a1 (Ev.bind m1 ?_)
    rw [h9w, Int.toNat_natCast]
    refine ev_if_pos a2 (ev_if_pos a3 (Ev.bind m2 (ev_if_pos (by decide) (ev_if_pos a4 (ev_one_bind nev ?_)))))
    rw [not32 c2, hsum, w64n hlt]
    subst hr
    clear hsum m1 m2 c1 c2 nev
    generalize sumL (l.take 5 ++ (l.take (9 + n)).drop 9) = s at *
    generalize num4 ((l.take 9).drop 5) = t at *
    by_cases hs : s = t
    · rw [if_pos hs]
      refine ev_if_pos (by rw [hs]) (ev_if_pos a5 ?_)
      rw [b0]
      exact ev_one_bind (clone_byte a8) (Ev.now _)
    · rw [if_neg hs]
      exact ev_if_neg (fun h => hs (Int.ofNat.inj h)) (Ev.now _)
def fget (l : List Int) : Int × List Int × Int × Int :=
  if l.length < 9 then (0, [], 0, 5) else if pay l > 1048576 then (0, [], 0, 5) else if 9 + pay l > l.length then (0, [], 0, 5)
  else if sumL (l.take 5 ++ (l.take (9 + pay l)).drop 9) = num4 ((l.take 9).drop 5) then (rd l 0, (l.take (9 + pay l)).drop 9, ((9 + pay l : Nat) : Int), 0) else (0, [], 0, 5)
theorem get_ev (l : List Int) (hl : ∀ x ∈ l, 0 ≤ x ∧ x ≤ 255) (hn : l.length ≤ 140737488351232) : Ev (fun k => frame_Get.f k l) (fget l) := by
  unfold frame_Get.f fget
  by_cases h9 : l.length < 9
  · rw [if_pos h9]
    exact ev_if_pos (by omega) (Ev.now _)
  rw [if_neg h9]
  refine ev_if_neg (by omega) (ev_if_pos (by decide) (ev_if_pos (by omega) ?_))
  have hsub : ∀ (a b : Nat), ∀ x ∈ (l.take a).drop b, 0 ≤ x ∧ x ≤ 255 := fun a b x hx => hl x (List.mem_of_mem_take (List.mem_of_mem_drop hx))
  refine ev_one_bind (number_ev (hsub 5 1) (by rw [List.length_drop, List.length_take]; omega)) ?_
  have hpay : num4 ((l.take 5).drop 1) = pay l := rfl
  rw [hpay]
  have jt : ∀ p : Int, Ev (fun k => frame_Get.j0 k l p true) (0, [], 0, 5) := by
    intro p
    refine Ev.step (f := fun _ => some (0, [], 0, 5)) (fun k => ?_) (Ev.now _)
    simp only [frame_Get.j0, if_true]
  have hw : wrap64 ((l.length : Int) - 9) = (l.length : Int) - 9 := w64 (by omega) (by omega)
  by_cases hp : pay l > 1048576
  · rw [if_pos hp]
    exact ev_if_pos (by omega) (jt _)
  rw [if_neg hp]
  refine ev_if_neg (by omega) ?_
  rw [hw]
  by_cases hq : 9 + pay l > l.length
  · rw [if_pos hq, decide_eq_true (by omega)]
    exact jt _
  · rw [if_neg hq, decide_eq_false (by omega)]
    exact get_j0 l hl hn _ (by omega) _ rfl
theorem put_j0 (kind : Int) (b : List Int) (h0 : 0 ≤ kind) (h1 : kind ≤ 255) (hb : ∀ x ∈ b, 0 ≤ x ∧ x ≤ 255) (hn : b.length ≤ 1048576) : Ev (fun k => frame_Put.j0 k kind b false) (fput kind b, 0) := by
  have e0 : ([kind % 256] : List Int) ++ four b.length = hd kind b := by rw [show kind % 256 = kind from by omega]; rfl
  have hh := hd_range b h0 h1
  have m1 := more_ev (hd kind b) hh (by rw [hd_len]; decide) 4294967295 (by decide)
  have c1 := crcL_lt (c := 4294967295) (hd kind b) (by decide) hh
  have m2 := more_ev b hb (by omega) _ c1
  have c2 := crcL_lt (c := crcL 4294967295 (hd kind b)) b c1 hb
  have hsum : crcL (crcL 4294967295 (hd kind b)) b ^^^ 4294967295 = sumL (hd kind b ++ b) := by unfold sumL; rw [crcL_append]
  have hlt : sumL (hd kind b ++ b) < 4294967296 := sumL_lt (fun x hx => (List.mem_append.1 hx).elim (hh x) (hb x))
  refine Ev.step (f := fun k => (if (b.length : Int) > 1048576 then (some (([] : List Int), 2)) else ((some (([(kind) % 256] : List Int) : List Int)).bind fun y106 => ((frame_four.f (b.length : Int)).bind fun t109 => (if y106.length + t109.length < 140737488355328 then ((some (y106 ++ t109 : List Int)).bind fun y112 => ((frame_more.f k 4294967295 y112).bind fun t115 => ((frame_more.f k t115 b).bind fun t116 => ((frame_four.f (wrap64 (Go.bits .xor .u32 4294967295 t116))).bind fun t117 => (if y112.length + t117.length < 140737488355328 then ((some (y112 ++ t117 : List Int)).bind fun y120 => (if y120.length + b.length < 140737488355328 then (some ((y120 ++ b), 0)) else (none))) else (none)))))) else (none)))))) (fun k => ?_) ?_
  · simp only [frame_Put.j0]
    rw [if_neg (by decide)]
  · have a1 : ¬ (b.length : Int) > 1048576 := by omega
    refine ev_if_neg a1 (ev_some_bind (ev_one_bind (four_ev _) (ev_if_pos (by rw [four_len, List.length_singleton]; decide) (ev_some_bind ?_))))
    rw [e0]
    refine Ev.bind m1 (Ev.bind m2 ?_)
    rw [not32 c2, hsum, w64n hlt]
    refine ev_one_bind (four_ev _) (ev_if_pos (by rw [four_len, hd_len]; decide) (ev_some_bind (ev_if_pos ?_ (Ev.now _))))
    rw [List.length_append, hd_len, four_len]
    clear hsum hlt m1 m2 c1 c2
    omega
theorem put_ev (kind : Int) (b : List Int) (h0 : 0 ≤ kind) (h1 : kind ≤ 255) (hb : ∀ x ∈ b, 0 ≤ x ∧ x ≤ 255) (hn : b.length ≤ 1048576) : Ev (fun k => frame_Put.f k kind b) (fput kind b, 0) := by
  unfold frame_Put.f
  refine ev_if_neg (by omega) ?_
  rw [decide_eq_false (by omega)]
  exact put_j0 kind b h0 h1 hb hn
theorem pay_parts (h r : List Int) (n : Nat) (hh : h.length = 5) (hn : n < 4294967296) (hp : h.drop 1 = four n) : pay (h ++ r) = n := by
  unfold pay
  rw [List.take_append_of_le_length (by omega), List.take_of_length_le (by omega), hp, num4_four hn]
theorem fget_parts (h q b more : List Int) (hh : h.length = 5) (hq : q.length = 4) (hb : b.length ≤ 1048576) (hp : h.drop 1 = four b.length) :
    fget (h ++ q ++ b ++ more) = if sumL (h ++ b) = num4 q then (rd h 0, b, ((9 + b.length : Nat) : Int), 0) else (0, [], 0, 5) := by
  have hlen : (h ++ q ++ b ++ more).length = 9 + b.length + more.length := by simp only [List.length_append]; omega
  have hpay : pay (h ++ q ++ b ++ more) = b.length := by
    rw [List.append_assoc, List.append_assoc]
    exact pay_parts h _ _ hh (by omega) hp
  have t5 : (h ++ q ++ b ++ more).take 5 = h := by
    rw [List.append_assoc, List.append_assoc, List.take_append_of_le_length (by omega), List.take_of_length_le (by omega)]
  have t9 : ((h ++ q ++ b ++ more).take 9).drop 5 = q := by
    rw [List.append_assoc, List.take_append_of_le_length (by simp; omega), List.take_of_length_le (by simp; omega), List.drop_append_of_le_length (by omega), List.drop_of_length_le (by omega), List.nil_append]
  have tb : ((h ++ q ++ b ++ more).take (9 + b.length)).drop 9 = b := by
    rw [List.take_append_of_le_length (by simp; omega), List.take_of_length_le (by simp; omega), List.drop_append_of_le_length (by simp; omega), List.drop_of_length_le (by simp; omega), List.nil_append]
  have hr : rd (h ++ q ++ b ++ more) 0 = rd h 0 := by
    unfold rd
    rw [List.append_assoc, List.append_assoc, List.getD_eq_getElem?_getD, List.getD_eq_getElem?_getD, List.getElem?_append_left (by simp; omega)]
  unfold fget
  rw [hpay, hlen, t5, t9, tb, hr]
  have c1 : ¬ 9 + b.length + more.length < 9 := by omega
  have c2 : ¬ b.length > 1048576 := by omega
  have c3 : ¬ 9 + b.length > 9 + b.length + more.length := by omega
  rw [if_neg c1, if_neg c2, if_neg c3]
theorem fget_fput (kind : Int) (b more : List Int) (hb : b.length ≤ 1048576) (hs : sumL (hd kind b ++ b) < 4294967296) : fget (fput kind b ++ more) = (kind, b, ((9 + b.length : Nat) : Int), 0) := by
  unfold fput
  rw [fget_parts _ _ _ _ (hd_len _ _) (four_len _) hb rfl, num4_four hs, if_pos rfl]
  rfl
theorem and255_i64 (n : Nat) (h : n < 9223372036854775808) : Go.bits .and .i64 (n : Int) 255 % 256 = ((n % 256 : Nat) : Int) := by
  have := and_mask_i64 (a := (n : Int)) 8 (by decide) (by omega) (by omega)
  rw [show ((2 ^ 8 - 1 : Nat) : Int) = 255 from by decide, Int.toNat_natCast, show (2 : Nat) ^ 8 = 256 from rfl] at this
  rw [this]
  omega
theorem reffour_ev {n : Nat} (h : n < 4294967296) : lysimeterref4_Four.f (n : Int) = some (four n) := by
  unfold lysimeterref4_Four.f four
  have e2 : ((n : Int) / 256) = ((n / 256 : Nat) : Int) := by omega
  have e3 : ((n : Int) / 65536) = ((n / 65536 : Nat) : Int) := by omega
  have e4 : ((n : Int) / 16777216) = ((n / 16777216 : Nat) : Int) := by omega
  rw [e2, e3, e4, and255_i64 _ (by omega), and255_i64 _ (by omega), and255_i64 _ (by omega), and255_i64 _ (by omega)]
theorem refframe_ev (kind : Int) (b : List Int) (h0 : 0 ≤ kind) (h1 : kind ≤ 255) (hb : ∀ x ∈ b, 0 ≤ x ∧ x ≤ 255) (hn : b.length ≤ 1048576) : Ev (fun k => lysimeterref4_Frame.f k kind b) (fput kind b, 0) := by
  have e0 : ([kind % 256] : List Int) ++ four b.length = hd kind b := by rw [show kind % 256 = kind from by omega]; rfl
  have hh := hd_range b h0 h1
  have hr : ∀ x ∈ hd kind b ++ b, 0 ≤ x ∧ x ≤ 255 := fun x hx => (List.mem_append.1 hx).elim (hh x) (hb x)
  have hs := refsum_ev (hd kind b ++ b) hr (by rw [List.length_append, hd_len]; omega)
  have hlt : sumL (hd kind b ++ b) < 4294967296 := sumL_lt hr
  have a1 : ¬ (b.length : Int) > 1048576 := by omega
  have a2 : (hd kind b).length + b.length < 140737488355328 := by rw [hd_len]; omega
  have a3 : (hd kind b ++ four (sumL (hd kind b ++ b))).length + b.length < 140737488355328 := by rw [List.length_append, hd_len, four_len]; omega
  have f1 := reffour_ev (n := b.length) (by omega)
  unfold lysimeterref4_Frame.f
  refine ev_if_neg (by clear hs hlt; omega) ?_
  rw [decide_eq_false (by clear hs hlt; omega)]
  refine Ev.step (f := fun k => (if (b.length : Int) > 1048576 then (some (([] : List Int), 2)) else ((some (([(kind) % 256] : List Int) : List Int)).bind fun y130 => ((lysimeterref4_Four.f (b.length : Int)).bind fun t133 => (if y130.length + t133.length < 140737488355328 then ((some (y130 ++ t133 : List Int)).bind fun y136 => (if ([] : List Int).length + y136.length < 140737488355328 then ((some (([] : List Int) ++ y136 : List Int)).bind fun y139 => (if y139.length + b.length < 140737488355328 then ((lysimeterref4_Sum.f k (y139 ++ b)).bind fun t145 => ((lysimeterref4_Four.f t145).bind fun t146 => (if y136.length + t146.length < 140737488355328 then ((some (y136 ++ t146 : List Int)).bind fun y149 => (if y149.length + b.length < 140737488355328 then (some ((y149 ++ b), 0)) else (none))) else (none)))) else (none))) else (none))) else (none)))))) (fun k => ?_) ?_
  · simp only [lysimeterref4_Frame.j0]
    rw [if_neg (by decide)]
  · refine ev_if_neg a1 (ev_some_bind (ev_one_bind f1 (ev_if_pos (by rw [four_len, List.length_singleton]; decide) (ev_some_bind ?_))))
    rw [e0]
    refine ev_if_pos (by rw [hd_len]; decide) (ev_some_bind (ev_if_pos a2 ?_))
    rw [List.nil_append]
    exact Ev.bind hs (ev_one_bind (reffour_ev hlt) (ev_if_pos (by rw [four_len, hd_len]; decide) (ev_some_bind (ev_if_pos a3 (Ev.now _)))))
theorem put_bad (kind : Int) (b : List Int) (h : kind < 0 ∨ 255 < kind) : Ev (fun k => frame_Put.f k kind b) ([], 1) := by
  have jt : Ev (fun k => frame_Put.j0 k kind b true) ([], 1) := by
    refine Ev.step (f := fun _ => some ([], 1)) (fun k => ?_) (Ev.now _)
    simp only [frame_Put.j0, if_true]
  unfold frame_Put.f
  by_cases c : kind < 0
  · exact ev_if_pos c jt
  · refine ev_if_neg c ?_
    rw [decide_eq_true (by omega)]
    exact jt
theorem refframe_bad (kind : Int) (b : List Int) (h : kind < 0 ∨ 255 < kind) : Ev (fun k => lysimeterref4_Frame.f k kind b) ([], 1) := by
  have jt : Ev (fun k => lysimeterref4_Frame.j0 k kind b true) ([], 1) := by
    refine Ev.step (f := fun _ => some ([], 1)) (fun k => ?_) (Ev.now _)
    simp only [lysimeterref4_Frame.j0, if_true]
  unfold lysimeterref4_Frame.f
  by_cases c : kind < 0
  · exact ev_if_pos c jt
  · refine ev_if_neg c ?_
    rw [decide_eq_true (by omega)]
    exact jt
theorem puts_true (a0 : Int) (l1 l2 : List Int) : Ev (fun k => lysimeterlaw9_FramePuts.j0 k a0 l1 l2 true true) true := by
  refine Ev.step (f := fun _ => some true) (fun k => ?_) (Ev.now _)
  simp only [lysimeterlaw9_FramePuts.j0, if_true]
theorem puts_j0 (kind : Int) (b more f : List Int) (e : Int) (hn : b.length ≤ 10000) (hp : Ev (fun k => frame_Put.f k kind b) (f, e)) (hq : Ev (fun k => lysimeterref4_Frame.f k kind b) (f, e))
    (hj : Ev (fun k => lysimeterlaw9_FramePuts.j1 k kind b more f e false) true) : Ev (fun k => lysimeterlaw9_FramePuts.j0 k kind b more true false) true := by
  have a1 : ([] : List Int).length + b.length < 140737488355328 := by rw [List.length_nil]; omega
  have a2 : b.length < 140737488355328 := by omega
  have a3 : (b.length : Int) ≤ ((b ++ [167]).length : Int) := by rw [List.length_append, List.length_singleton]; omega
  have a4 : (b.length : Int) < ((b ++ [167]).length : Int) := by rw [List.length_append, List.length_singleton]; omega
  have ht : (b ++ [167]).take b.length = b := List.take_left
  have hr : rd (b ++ [167]) (b.length : Int) = 167 := by
    unfold rd
    rw [Int.toNat_natCast, List.getD_eq_getElem?_getD, List.getElem?_append_right (Nat.le_refl _)]
    simp
  refine Ev.step (f := fun k => (if ([] : List Int).length + b.length < 140737488355328 then ((some (([] : List Int) ++ b : List Int)).bind fun y173 => (if y173.length < 140737488355328 then ((some (y173 ++ [167] : List Int)).bind fun y176 => (if 0 ≤ (b.length : Int) then (if (b.length : Int) ≤ (y176.length : Int) then ((frame_Put.f k kind (y176.take ((b.length : Int) : Int).toNat)).bind fun bt183 => ((lysimeterref4_Frame.f k kind b).bind fun bt187 => ((lysimeterlaw9_num.f bt183.2).bind fun t191 => (if t191 = bt187.2 then (if (strOfNums bt183.1).toList = (strOfNums bt187.1).toList then (if (strOfNums (y176.take ((b.length : Int) : Int).toNat)).toList = (strOfNums b).toList then (if (b.length : Int) < (y176.length : Int) then (lysimeterlaw9_FramePuts.j1 k kind b more bt183.1 bt187.2 ((rd y176 (b.length : Int)) != 167)) else (none)) else (lysimeterlaw9_FramePuts.j1 k kind b more bt183.1 bt187.2 true)) else (lysimeterlaw9_FramePuts.j1 k kind b more bt183.1 bt187.2 true)) else (lysimeterlaw9_FramePuts.j1 k kind b more bt183.1 bt187.2 true))))) else (none)) else (none))) else (none))) else (none))) (fun k => ?_) ?_
  · simp only [lysimeterlaw9_FramePuts.j0]
    rw [if_neg (by decide)]
  · refine ev_if_pos a1 (ev_some_bind ?_)
    rw [List.nil_append]
    refine ev_if_pos a2 (ev_some_bind (ev_if_pos (by omega) (ev_if_pos a3 ?_)))
    rw [Int.toNat_natCast, ht, hr]
    exact Ev.bind hp (Ev.bind hq (ev_one_bind (num9_ev _) (ev_if_pos rfl (ev_if_pos rfl (ev_if_pos rfl (ev_if_pos a4 hj))))))
theorem FramePuts : lysimeterlaw9_FramePuts.Pure := by
  intro kind b more w0 hm1 hn1 hw1 hm2 hn2 hw2
  have hb : ∀ x ∈ b, 0 ≤ x ∧ x ≤ 255 := fun x hx => wf_u8 (hw1 x hx)
  have hmo : ∀ x ∈ more, 0 ≤ x ∧ x ≤ 255 := fun x hx => wf_u8 (hw2 x hx)
  refine Ev.rounds (r := true) (g := fun k => lysimeterlaw9_FramePuts.f k kind b more) ?_
  unfold lysimeterlaw9_FramePuts.f
  refine Ev.bind alive9_ev (ev_if_pos rfl ?_)
  by_cases c1 : (b.length : Int) > 10000
  · exact ev_if_pos c1 (puts_true _ _ _)
  refine ev_if_neg c1 ?_
  by_cases c2 : (more.length : Int) > 1000
  · rw [decide_eq_true c2]
    exact puts_true _ _ _
  rw [decide_eq_false c2]
  by_cases hk : kind < 0 ∨ 255 < kind
  · refine puts_j0 kind b more [] 1 (by omega) (put_bad kind b hk) (refframe_bad kind b hk) ?_
    refine Ev.step (f := fun _ => some true) (fun k => ?_) (Ev.now _)
    simp only [lysimeterlaw9_FramePuts.j1]
    rw [if_neg (by decide), if_neg (by decide)]
  · have h0 : 0 ≤ kind := by omega
    have h1 : kind ≤ 255 := by omega
    refine puts_j0 kind b more (fput kind b) 0 (by omega) (put_ev kind b h0 h1 hb (by omega)) (refframe_ev kind b h0 h1 hb (by omega)) ?_
    have hl := fput_len kind b
    have g := get_ev (fput kind b ++ more) (fun x hx => (List.mem_append.1 hx).elim (fput_range h0 h1 hb x) (hmo x)) (by rw [List.length_append, hl]; omega)
    have hs : sumL (hd kind b ++ b) < 4294967296 := sumL_lt (fun x hx => (List.mem_append.1 hx).elim (hd_range b h0 h1 x) (hb x))
    rw [fget_fput kind b more (by clear hs; omega) hs] at g
    have a1 : ([] : List Int).length + (fput kind b).length < 140737488355328 := by rw [List.length_nil, hl]; clear g hs; omega
    have a2 : (fput kind b).length + more.length < 140737488355328 := by rw [hl]; clear g hs; omega
    have a3 : (((9 + b.length : Nat) : Int) == ((fput kind b).length : Int)) = true := by rw [hl]; simp
    refine Ev.step (f := fun k => (if (0 : Int) = 0 then (if ([] : List Int).length + (fput kind b).length < 140737488355328 then ((some (([] : List Int) ++ (fput kind b) : List Int)).bind fun y197 => (if y197.length + more.length < 140737488355328 then ((frame_Get.f k (y197 ++ more)).bind fun bt203 => ((lysimeterlaw9_num.f bt203.2.2.2).bind fun t209 => (if t209 = 0 then (if bt203.1 = kind then (if (strOfNums bt203.2.1).toList = (strOfNums b).toList then (some (bt203.2.2.1 == ((fput kind b).length : Int))) else (some false)) else (some false)) else (some false)))) else (none))) else (none)) else (some true))) (fun k => ?_) ?_
    · simp only [lysimeterlaw9_FramePuts.j1]
      rw [if_neg (by decide)]
    · refine ev_if_pos rfl (ev_if_pos a1 (ev_some_bind ?_))
      rw [List.nil_append]
      refine ev_if_pos a2 (Ev.bind g (ev_one_bind (num9_ev _) (ev_if_pos rfl (ev_if_pos rfl (ev_if_pos rfl ?_)))))
      rw [a3]
      exact Ev.now _

end Go.Proofs.Ytjilnpbgclnecaa.Pure
