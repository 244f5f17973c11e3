/- The bits of numbers and of bytes: what the writers of the chapter bits put, and what its readers take, over lists alone. -/
import Derived.Test.YtjilnpbgclnecaaXBits
set_option linter.unusedVariables false
set_option linter.unusedSimpArgs false
namespace Go.Proofs.Ytjilnpbgclnecaa.XBits
open Go Go.RowKit Go.Proofs.YtjilnpbgclnecaaW.PrintWords Go.Proofs.YtjilnpbgclnecaaW.PrintLast Go.Proofs.YtjilnpbgclnecaaW.PrintMore Go.Proofs.Ytjilnpbgclnecaa.XP Go.Proofs.Ytjilnpbgclnecaa.PBitsReads
def unum (v : Int) : Nat := (IntKind.u64.wrap v).toNat
theorem unum_eq (v : Int) : IntKind.u64.wrap v = ((unum v : Nat) : Int) := by
  unfold unum
  rw [IntKind.wrap_u64]
  omega
theorem unum_lt (v : Int) : unum v < 18446744073709551616 := by
  unfold unum
  rw [IntKind.wrap_u64]
  omega
def ubit (v : Int) (i : Nat) : Bool := (unum v).testBit i
theorem ubit_and (v : Int) (i : Nat) : Go.bits .and .u64 (IntKind.u64.wrap v / 2 ^ i) 1 = if ubit v i = true then 1 else 0 := by
  have h2 : ((2 : Int) ^ i) = ((2 ^ i : Nat) : Int) := by simp
  rw [unum_eq, h2, ← Int.natCast_ediv, and1_u64 (Nat.lt_of_le_of_lt (Nat.div_le_self _ _) (unum_lt v))]
  unfold ubit
  rw [Nat.testBit_eq_decide_div_mod_eq]
  by_cases h : unum v / 2 ^ i % 2 = 1
  · rw [h]; simp
  · rw [show unum v / 2 ^ i % 2 = 0 by omega]; simp
theorem bitOf_eq (v : Int) (i : Nat) : bitOf v i = if ubit v i = true then 1 else 0 := by
  unfold bitOf
  rw [ubit_and]
  split <;> rfl
theorem bput_eq (v : Int) (i : Nat) : (Go.bits .and .u64 (IntKind.u64.wrap v / 2 ^ i) 1 == 1) = ubit v i := by
  rw [ubit_and]
  cases ubit v i <;> rfl
/-- The bits k - 1, .., 0 of v. -/
def vbits (v : Int) : Nat → List Bool
  | 0 => []
  | i + 1 => ubit v i :: vbits v i
theorem vbits_len (v : Int) : ∀ k, (vbits v k).length = k
  | 0 => rfl
  | k + 1 => by rw [vbits, List.length_cons, vbits_len v k]
theorem bputs_eq (v : Int) : ∀ (k : Nat) (B : List Bool), bputs v k B = B ++ vbits v k
  | 0, B => by simp [bputs, vbits]
  | k + 1, B => by
    rw [bputs, vbits, bputs_eq v k, bput_eq]
    simp
theorem vbits_get (v : Int) : ∀ (k i : Nat) (h : i < (vbits v k).length), (vbits v k)[i] = ubit v (k - 1 - i)
  | 0, i, h => by simp [vbits] at h
  | k + 1, 0, h => by simp [vbits]
  | k + 1, i + 1, h => by
    have := vbits_get v k i (by simpa [vbits] using h)
    simp only [vbits, List.getElem_cons_succ]
    rw [this]
    congr 1
    omega
theorem rdOf_get {α : Type} (d : α) (l : List α) (i : Nat) (h : i < l.length) : rdOf d l (i : Int) = l[i] := by
  unfold rdOf
  rw [Int.toNat_natCast, List.getD_eq_getElem?_getD, List.getElem?_eq_getElem h]
  rfl
theorem or_u8 {a b : Int} (h0 : 0 ≤ a) (h1 : a ≤ 255) (h2 : 0 ≤ b) (h3 : b ≤ 255) : Go.bits .or .u8 a b = ((a.toNat ||| b.toNat : Nat) : Int) := by
  obtain ⟨n, rfl⟩ := Int.eq_ofNat_of_zero_le h0
  obtain ⟨m, rfl⟩ := Int.eq_ofNat_of_zero_le h2
  rw [u8_or_nat _ _ (by omega) (by omega)]
  rfl
theorem p255 (j : Nat) : (2 : Int) ^ (7 - j) % 256 = ((2 ^ (7 - j) : Nat) : Int) ∧ 2 ^ (7 - j) ≤ 128 := by
  have h2 : ((2 : Int) ^ (7 - j)) = ((2 ^ (7 - j) : Nat) : Int) := by simp
  have h : 2 ^ (7 - j) ≤ 2 ^ 7 := Nat.pow_le_pow_right (by decide) (by omega)
  have h7 : (2 : Nat) ^ 7 = 128 := rfl
  rw [h7] at h
  rw [h2]
  clear h2 h7
  generalize 2 ^ (7 - j) = m at *
  omega
theorem rb_range (B : List Bool) : ∀ i, ∀ x ∈ rb B i, 0 ≤ x ∧ x ≤ 255
  | 0 => fun x hx => by
    have := List.eq_of_mem_replicate hx
    omega
  | i + 1 => fun x hx => by
    unfold rb at hx
    split at hx
    · rcases List.mem_or_eq_of_mem_set hx with hx | rfl
      · exact rb_range B i x hx
      · obtain ⟨e, hp⟩ := p255 (i % 8)
        have hy : 0 ≤ rdOf 0 (rb B i) ((i / 8 : Nat) : Int) ∧ rdOf 0 (rb B i) ((i / 8 : Nat) : Int) ≤ 255 := by
          rcases Nat.lt_or_ge (i / 8) (rb B i).length with h | h
          · rw [rdOf_get 0 _ _ h]; exact rb_range B i _ (List.getElem_mem h)
          · unfold rdOf
            rw [Int.toNat_natCast, List.getD_eq_getElem?_getD, List.getElem?_eq_none h]
            exact ⟨Int.le_refl _, by decide⟩
        rw [e, or_u8 hy.1 hy.2 (by omega) (by omega)]
        have : ((rdOf 0 (rb B i) ((i / 8 : Nat) : Int)).toNat ||| (((2 ^ (7 - i % 8) : Nat) : Int)).toNat) < 2 ^ 8 := Nat.or_lt_two_pow (by omega) (by omega)
        omega
    · exact rb_range B i x hx
theorem wl1_set (l : List Int) (n j : Nat) (y : Int) (h : j < l.length) : (wl1 l n).set j y = wl1 (l.set j y) n := by
  unfold wl1
  split
  · rw [List.set_append_left _ _ h]
  · rfl
theorem wl1_rd (l : List Int) (n j : Nat) (h : j < l.length) : rdOf 0 (wl1 l n) (j : Int) = rdOf 0 l (j : Int) := by
  unfold wl1
  split
  · rw [rdOf_get 0 _ _ (by simp; omega), rdOf_get 0 _ _ h, List.getElem_append_left h]
  · rfl
theorem wl1_len (l : List Int) (n : Nat) (h : l.length = (n + 7) / 8) : (wl1 l n).length = n / 8 + 1 := by
  unfold wl1
  split
  · rw [List.length_append, List.length_singleton]; omega
  · omega
theorem rb_snoc (B : List Bool) (x : Bool) : ∀ i, i ≤ B.length → rb (B ++ [x]) i = wl1 (rb B i) B.length
  | 0, _ => by
    unfold rb wl1
    rw [List.length_append, List.length_singleton]
    split
    · rw [show (B.length + 1 + 7) / 8 = (B.length + 7) / 8 + 1 by omega, List.replicate_succ']
    · rw [show (B.length + 1 + 7) / 8 = (B.length + 7) / 8 by omega]
  | i + 1, h => by
    have ih := rb_snoc B x i (by omega)
    have hl : i / 8 < (rb B i).length := by rw [rb_len]; omega
    have e : rdOf false (B ++ [x]) (i : Int) = rdOf false B (i : Int) := by
      rw [rdOf_get _ _ _ (by simp; omega), rdOf_get _ _ _ (by omega), List.getElem_append_left (by omega)]
    rw [rb, rb, e, ih]
    split
    · rw [wl1_set _ _ _ _ hl, wl1_rd _ _ _ hl]
    · rfl
theorem wput1_rb (B : List Bool) (x : Bool) : wput1 (rb B B.length) B.length (if x = true then 1 else 0) = rb (B ++ [x]) (B ++ [x]).length := by
  have hl := wl1_len (rb B B.length) B.length (rb_len B B.length)
  have hr := rb_range (B ++ [x]) B.length
  rw [rb_snoc B x B.length (Nat.le_refl _)] at hr
  rw [show (B ++ [x]).length = B.length + 1 by simp, rb, rb_snoc B x B.length (Nat.le_refl _)]
  have e : rdOf false (B ++ [x]) ((B.length : Nat) : Int) = x := by
    rw [rdOf_get _ _ _ (by simp)]
    simp
  rw [e]
  unfold wput1
  rw [hl, show ((B.length / 8 + 1 : Nat) : Int) - 1 = ((B.length / 8 : Nat) : Int) by omega, Nat.add_sub_cancel]
  have hlt : B.length / 8 < (wl1 (rb B B.length) B.length).length := by omega
  cases x with
  | true =>
    simp only [if_true, Int.one_mul]
  | false =>
    simp only [Bool.false_eq_true, if_false, Int.zero_mul]
    rw [rdOf_get 0 _ _ hlt]
    obtain ⟨h0, h1⟩ := hr _ (List.getElem_mem hlt)
    rw [show (0 : Int) % 256 = 0 from rfl, or_u8 h0 h1 (by omega) (by omega)]
    rw [show (0 : Int).toNat = 0 from rfl, Nat.or_zero, Int.toNat_of_nonneg h0]
    exact List.set_getElem_self hlt
/-- The bytes of bits. -/
def pack (B : List Bool) : List Int := rb B B.length
theorem pack_len (B : List Bool) : (pack B).length = (B.length + 7) / 8 := rb_len B _
theorem wputs_pack (v : Int) : ∀ (k : Nat) (B : List Bool), wputs v k (pack B, B.length) = (pack (B ++ vbits v k), (B ++ vbits v k).length)
  | 0, B => by simp [wputs, vbits]
  | k + 1, B => by
    rw [wputs, bitOf_eq]
    show wputs v k (wput1 (rb B B.length) B.length _, B.length + 1) = _
    rw [wput1_rb, show B.length + 1 = (B ++ [ubit v k]).length by simp]
    have := wputs_pack v k (B ++ [ubit v k])
    unfold pack at this ⊢
    rw [this, vbits]
    simp
/-- Bit p of bytes. -/
def pbit (l : List Int) (p : Nat) : Bool := (rd l ((p / 8 : Nat) : Int)).toNat.testBit (7 - p % 8)
theorem rd_rdOf (l : List Int) (i : Int) : rd l i = rdOf 0 l i := rfl
theorem rb_bit (B : List Bool) (p : Nat) (hp : p < B.length) : ∀ i, i ≤ B.length → pbit (rb B i) p = (decide (p < i) && B[p])
  | 0, _ => by
    unfold pbit rb
    rw [rd_rdOf, rdOf_get 0 _ _ (by simp; omega)]
    simp
  | i + 1, h => by
    have ih := rb_bit B p hp i (by omega)
    have hl : i / 8 < (rb B i).length := by rw [rb_len]; omega
    have hlp : p / 8 < (rb B i).length := by rw [rb_len]; omega
    rw [rb, rdOf_get false B i (by omega)]
    by_cases hx : B[i] = true
    · rw [if_pos hx]
      unfold pbit at ih ⊢
      rw [rd_rdOf, rdOf_get 0 _ _ (by rw [List.length_set]; exact hlp)] 
      rw [rd_rdOf, rdOf_get 0 _ _ hlp] at ih
      rw [List.getElem_set]
      by_cases hq : i / 8 = p / 8
      · rw [if_pos hq, rdOf_get 0 _ _ hl]
        obtain ⟨h0, h1⟩ := rb_range B i _ (List.getElem_mem hl)
        obtain ⟨e, hp2⟩ := p255 (i % 8)
        rw [e, or_u8 h0 h1 (by omega) (by omega), Int.toNat_natCast, Int.toNat_natCast, Nat.testBit_or]
        simp only [hq]
        rw [ih, Nat.testBit_two_pow]
        by_cases hpi : p = i
        · subst hpi
          rw [hx]
          simp
        · rw [decide_eq_false (show ¬ (7 - i % 8 = 7 - p % 8) by omega), Bool.or_false]
          congr 1
          rw [decide_eq_decide]
          omega
      · rw [if_neg hq, ih]
        congr 1
        rw [decide_eq_decide]
        have : p ≠ i := fun e => hq (by rw [e])
        omega
    · rw [if_neg hx, ih]
      by_cases hpi : p = i
      · subst hpi
        rw [Bool.eq_false_iff.2 hx]
        simp
      · congr 1
        rw [decide_eq_decide]
        omega
theorem pack_bit (B : List Bool) (p : Nat) (hp : p < B.length) : pbit (pack B) p = B[p] := by
  unfold pack
  rw [rb_bit B p hp B.length (Nat.le_refl _), decide_eq_true hp, Bool.true_and]
/-! ### taking -/
theorem tb_range (x : Bool) (v : Int) : 0 ≤ tbStep x v ∧ tbStep x v < 18446744073709551616 := by
  have hw : 0 ≤ IntKind.u64.wrap (v * 2) ∧ IntKind.u64.wrap (v * 2) < 18446744073709551616 := by rw [IntKind.wrap_u64]; omega
  unfold tbStep
  split
  · obtain ⟨n, e⟩ := Int.eq_ofNat_of_zero_le hw.1
    rw [e, show (1 : Int) = ((1 : Nat) : Int) from rfl, u64_or_nat _ _ (by omega) (by decide)]
    have : n ||| 1 < 2 ^ 64 := Nat.or_lt_two_pow (by omega) (by decide)
    omega
  · exact hw
theorem takeStep_eq (l : List Int) (hl : ∀ x ∈ l, 0 ≤ x ∧ x ≤ 255) (p : Nat) (hp : p < 8 * l.length) (v : Int) : takeStep l p v = tbStep (pbit l p) v := by
  unfold takeStep tbStep pbit
  rw [rd_rdOf, rdOf_get 0 _ _ (by omega)]
  obtain ⟨h0, h1⟩ := hl _ (List.getElem_mem (show p / 8 < l.length by omega))
  generalize l[p / 8] = y at *
  obtain ⟨n, rfl⟩ := Int.eq_ofNat_of_zero_le h0
  have h2 : ((2 : Int) ^ (7 - p % 8)) = ((2 ^ (7 - p % 8) : Nat) : Int) := by simp
  have hn : n / 2 ^ (7 - p % 8) ≤ n := Nat.div_le_self _ _
  rw [h2, ← Int.natCast_ediv, Int.toNat_natCast, show (1 : Int) = ((1 : Nat) : Int) from rfl, u8_and_nat _ _ (by omega) (by decide), nat_mask1, Nat.testBit_eq_decide_div_mod_eq]
  have hw : 0 ≤ IntKind.u64.wrap (v * 2) ∧ IntKind.u64.wrap (v * 2) < 18446744073709551616 := by rw [IntKind.wrap_u64]; omega
  by_cases h : n / 2 ^ (7 - p % 8) % 2 = 1
  · rw [h, decide_eq_true rfl, if_pos rfl]
    rfl
  · rw [show n / 2 ^ (7 - p % 8) % 2 = 0 by omega]
    rw [if_neg (by simp)]
    obtain ⟨m, e⟩ := Int.eq_ofNat_of_zero_le hw.1
    rw [e, show IntKind.u64.wrap ((0 : Nat) : Int) = ((0 : Nat) : Int) from rfl, u64_or_nat _ _ (by omega) (by decide), Nat.or_zero]
theorem takeV_eq (l : List Int) (hl : ∀ x ∈ l, 0 ≤ x ∧ x ≤ 255) (B : List Bool) (p : Nat) : ∀ n, p + n ≤ 8 * l.length → p + n ≤ B.length → (∀ i (h : i < B.length), i < p + n → pbit l i = B[i]) → takeV l p n = takeB B p n
  | 0, _, _, _ => rfl
  | n + 1, h, hB, hb => by
    rw [takeV, takeB, takeStep_eq l hl _ (by omega), takeV_eq l hl B p n (by omega) (by omega) (fun i h1 h2 => hb i h1 (by omega)), rdOf_get false B (p + n) (by omega), hb (p + n) (by omega) (by omega)]
/-- Where the bits of v stand, its lowest bits are taken. -/
theorem takeB_vbits (v : Int) (B : List Bool) (p n : Nat) (hn : n ≤ 64) (hB : p + n ≤ B.length) (hb : ∀ i (h : i < n), B[p + i]'(by omega) = ubit v (n - 1 - i)) :
    ∀ i, i ≤ n → takeB B p i = ((unum v % 2 ^ n / 2 ^ (n - i) : Nat) : Int)
  | 0, _ => by
    rw [takeB, Nat.sub_zero, Nat.div_eq_of_lt (Nat.mod_lt _ (Nat.two_pow_pos n))]
    rfl
  | i + 1, h => by
    have ih := takeB_vbits v B p n hn hB hb i (by omega)
    obtain ⟨j, hj⟩ : ∃ j, n - i = j + 1 := ⟨n - i - 1, by omega⟩
    have hj2 : n - (i + 1) = j := by omega
    rw [takeB, ih, rdOf_get false B (p + i) (by omega), hb i (by omega), hj, hj2, show n - 1 - i = j by omega]
    have hm : unum v % 2 ^ n < 2 ^ n := Nat.mod_lt _ (Nat.two_pow_pos n)
    have hbit : ubit v j = decide (unum v % 2 ^ n / 2 ^ j % 2 = 1) := by
      unfold ubit
      rw [← Nat.testBit_eq_decide_div_mod_eq, Nat.testBit_mod_two_pow, decide_eq_true (show j < n by omega), Bool.true_and]
    rw [hbit]
    generalize unum v % 2 ^ n = m at *
    have hp : 2 ^ n ≤ 2 ^ 64 := Nat.pow_le_pow_right (by decide) hn
    have hd : m / 2 ^ (j + 1) = m / 2 ^ j / 2 := by rw [Nat.pow_succ, Nat.div_div_eq_div_mul]
    have hle : m / 2 ^ j ≤ m := Nat.div_le_self _ _
    rw [hd]
    generalize m / 2 ^ j = q at *
    have hw : IntKind.u64.wrap (((q / 2 : Nat) : Int) * 2) = ((q / 2 * 2 : Nat) : Int) := by rw [IntKind.wrap_u64]; omega
    unfold tbStep
    rw [hw]
    by_cases hq : q % 2 = 1
    · rw [if_pos (decide_eq_true hq), show (1 : Int) = ((1 : Nat) : Int) from rfl, u64_or_nat _ _ (by omega) (by decide)]
      have := nat_join 1 (q / 2 * 2) 1 (Nat.mul_mod_left _ _) (by decide)
      rw [this]
      congr 1
      omega
    · rw [if_neg (by simpa using hq)]
      congr 1
      omega
theorem want_full (v : Int) (h0 : -9223372036854775808 ≤ v) (h1 : v ≤ 9223372036854775807) : wrap64 ((unum v % 2 ^ 64 : Nat) : Int) = v := by
  have e := unum_eq v
  rw [IntKind.wrap_u64] at e
  have hl := unum_lt v
  rw [Nat.mod_eq_of_lt (show unum v < 2 ^ 64 from hl), ← e]
  clear e hl
  unfold wrap64
  omega
theorem want_mask (v : Int) (n : Nat) (hn : n < 64) (h0 : -9223372036854775808 ≤ v) (h1 : v ≤ 9223372036854775807) : Go.bits .and .i64 v (wrap64 (wrap64 (2 ^ n) - 1)) = wrap64 ((unum v % 2 ^ n : Nat) : Int) := by
  have hp : (2 : Nat) ^ n ≤ 2 ^ 63 := Nat.pow_le_pow_right (by decide) (by omega)
  have hp0 : 0 < (2 : Nat) ^ n := Nat.pow_pos (by decide)
  have hm : wrap64 (wrap64 (2 ^ n) - 1) = ((2 ^ n - 1 : Nat) : Int) := by
    have h2 : ((2 : Int) ^ n) = ((2 ^ n : Nat) : Int) := by simp
    rw [h2]
    generalize 2 ^ n = m at *
    unfold wrap64
    omega
  rw [hm]
  show IntKind.i64.wrap ((BitVec.ofInt 64 v &&& BitVec.ofInt 64 ((2 ^ n - 1 : Nat) : Int)).toNat : Int) = _
  have hu : (BitVec.ofInt 64 v).toNat = unum v := by
    rw [BitVec.toNat_ofInt]
    unfold unum
    rw [IntKind.wrap_u64]
    rfl
  rw [BitVec.toNat_and, hu, BitVec.ofInt_natCast, BitVec.toNat_ofNat, Nat.mod_eq_of_lt (by omega), Nat.and_two_pow_sub_one_eq_mod, i64_w]
/-! ### the reference's bits of bytes -/
def ofb (l : List Int) : List Bool := (List.range (8 * l.length)).map (pbit l)
theorem ofb_len (l : List Int) : (ofb l).length = 8 * l.length := by simp [ofb]
theorem ofb_get (l : List Int) (i : Nat) (h : i < (ofb l).length) : (ofb l)[i] = pbit l i := by simp [ofb]
theorem of_bit (l : List Int) (hl : ∀ x ∈ l, 0 ≤ x ∧ x ≤ 255) (i k : Nat) (hi : i < l.length) (hk : k ≤ 7) : ((Go.bits .and .u8 (shr .u8 (rd l (i : Int)) (IntKind.u64.wrap (k : Int))) 1) == 1) = pbit l (8 * i + (7 - k)) := by
  unfold pbit shr
  rw [show (8 * i + (7 - k)) / 8 = i by omega, show 7 - (8 * i + (7 - k)) % 8 = k by omega]
  rw [rd_rdOf, rdOf_get 0 _ _ hi]
  obtain ⟨h0, h1⟩ := hl _ (List.getElem_mem hi)
  generalize l[i] = y at *
  obtain ⟨n, rfl⟩ := Int.eq_ofNat_of_zero_le h0
  rw [show IntKind.u64.wrap (k : Int) = (k : Int) by rw [IntKind.wrap_u64]; omega, Int.toNat_natCast, show min k IntKind.u8.bits = k from Nat.min_eq_left (by show k ≤ 8; omega)]
  have h2 : ((2 : Int) ^ k) = ((2 ^ k : Nat) : Int) := by simp
  have hn : n / 2 ^ k ≤ n := Nat.div_le_self _ _
  rw [h2, ← Int.natCast_ediv, Int.toNat_natCast, show (1 : Int) = ((1 : Nat) : Int) from rfl, u8_and_nat _ _ (by omega) (by decide), nat_mask1, Nat.testBit_eq_decide_div_mod_eq]
  by_cases h : n / 2 ^ k % 2 = 1
  · rw [h]; rfl
  · rw [show n / 2 ^ k % 2 = 0 by omega]; rfl
theorem of_l1 (l : List Int) (hl : ∀ x ∈ l, 0 ≤ x ∧ x ≤ 255) (hn : l.length ≤ 1000000) (i : Nat) (hi : i < l.length) (r : List Bool) :
    ∀ k, k ≤ 8 → Ev (fun n => lysimeterref4_Of.l0 n l ((List.range (8 * (i + 1))).map (pbit l)) ((i + 1 : Nat) : Int)) r → Ev (fun n => lysimeterref4_Of.l1 n l ((List.range (8 * i + (8 - k))).map (pbit l)) (i : Int) ((k : Int) - 1)) r := by
  intro k
  induction k with
  | zero =>
    intro _ h
    refine Ev.step (f := fun n => lysimeterref4_Of.l0 n l ((List.range (8 * (i + 1))).map (pbit l)) ((i + 1 : Nat) : Int)) (fun n => ?_) h
    simp only [lysimeterref4_Of.l1]
    rw [if_neg (by omega), show 8 * i + (8 - 0) = 8 * (i + 1) by omega, show wrap64 ((i : Int) + 1) = ((i + 1 : Nat) : Int) by unfold wrap64; omega]
  | succ k ih =>
    intro hk h
    refine Ev.step (f := fun n => lysimeterref4_Of.l1 n l ((List.range (8 * i + (8 - k))).map (pbit l)) (i : Int) ((k : Int) - 1)) (fun n => ?_) (ih (by omega) h)
    have e1 : ((k + 1 : Nat) : Int) - 1 = (k : Int) := by omega
    have e2 : 0 ≤ IntKind.u64.wrap (k : Int) := by rw [IntKind.wrap_u64]; omega
    have e3 : ((List.range (8 * i + (8 - (k + 1)))).map (pbit l)).length < 140737488355328 := by simp; omega
    have e4 : wrap64 ((k : Int) - 1) = (k : Int) - 1 := by unfold wrap64; omega
    simp only [lysimeterref4_Of.l1]
    rw [e1, if_pos (by omega), if_pos (by omega), if_pos (by omega), if_pos e2, if_pos e3, of_bit l hl i k hi (by omega), e4]
    rw [show 8 * i + (8 - k) = 8 * i + (8 - (k + 1)) + 1 by omega, List.range_succ, List.map_append, List.map_singleton, show 8 * i + (7 - k) = 8 * i + (8 - (k + 1)) by omega]
theorem of_l0 (l : List Int) (hl : ∀ x ∈ l, 0 ≤ x ∧ x ≤ 255) (hn : l.length ≤ 1000000) : ∀ d i, i + d = l.length → Ev (fun n => lysimeterref4_Of.l0 n l ((List.range (8 * i)).map (pbit l)) (i : Int)) (ofb l) := by
  intro d
  induction d with
  | zero =>
    intro i hi
    refine Ev.step (f := fun _ => some (ofb l)) (fun n => ?_) (Ev.now _)
    simp only [lysimeterref4_Of.l0]
    rw [if_neg (by omega), show i = l.length by omega]
    rfl
  | succ d ih =>
    intro i hi
    refine Ev.step (f := fun n => lysimeterref4_Of.l1 n l ((List.range (8 * i + (8 - 8))).map (pbit l)) (i : Int) (((8 : Nat) : Int) - 1)) (fun n => ?_) (of_l1 l hl hn i (by omega) _ 8 (Nat.le_refl _) (ih (i + 1) (by omega)))
    simp only [lysimeterref4_Of.l0]
    rw [if_pos (by omega)]
    rfl
theorem of_some (l : List Int) (hl : ∀ x ∈ l, 0 ≤ x ∧ x ≤ 255) (hn : l.length ≤ 1000000) : ∃ k, lysimeterref4_Of.f k l = some (ofb l) :=
  Ev.rounds (of_l0 l hl hn l.length 0 (by omega))
end Go.Proofs.Ytjilnpbgclnecaa.XBits
