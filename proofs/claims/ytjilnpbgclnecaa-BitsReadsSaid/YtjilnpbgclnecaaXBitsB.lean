/- The law BitsBack, walked: its call comes to true. -/
import Derived.Test.YtjilnpbgclnecaaXBitsW
namespace Go.Proofs.Ytjilnpbgclnecaa.XBits
open Go.RowKit Go.Proofs.YtjilnpbgclnecaaW.PrintWords Go.Proofs.YtjilnpbgclnecaaW.PrintLast Go.Proofs.YtjilnpbgclnecaaW.PrintMore Go.Proofs.Ytjilnpbgclnecaa.XB Go.Proofs.Ytjilnpbgclnecaa.XH Go.Proofs.Ytjilnpbgclnecaa.PBitsReads Go.Proofs.Ytjilnpbgclnecaa.XP
attribute [local go_sem] sg_u8 sg_u16 sg_u32 sg_u64 mx_u8 mx_u16 mx_u32 mx_u64
attribute [local go_sem] max_two min_two
set_option linter.unusedVariables false
set_option linter.unusedSimpArgs false
/-- One writer. -/
structure OneW (w W : World) (g : Nat) (B : List Bool) : Prop where
  st : ∃ S : Nat → Prop, WS W w.heap.size S g (pack B) B.length ∧ (∀ k, S k → w.heap.size ≤ k)
  b : Below w.heap.size w W
theorem OneW.below {w W W2 : World} {g : Nat} {B : List Bool} (h : OneW w W g B) (hb : Below W.heap.size W W2) : OneW w W2 g B := by
  obtain ⟨⟨S, h1, b1⟩, hB⟩ := h
  exact ⟨⟨S, h1.chg ((Chg.refl W (fun _ => False)).below hb) (fun _ h => h.elim), b1⟩, below_step hB hb⟩
theorem OneW.put {w W : World} {g : Nat} {B : List Bool} (h : OneW w W g B) (v m : Int) (hB : B.length ≤ 1000000) :
    Calls Try.prog 43 #[.pointer (some ⟨g, 0, none⟩), .int .i64 v, .int .i64 m] W fun e w' => e = .returned (.tuple #[]) ∧ OneW w w' g (B ++ vbits v (clampN m)) := by
  obtain ⟨⟨S, h1, b1⟩, hb⟩ := h
  have hp := pack_bounds B
  refine (XBits.put _ g S _ _ v m W h1 (by rw [pack_len]; omega) hp.1 hp.2).mono ?_
  rintro e w' ⟨he, hw, hc⟩
  rw [wputs_pack] at hw
  refine ⟨he, ⟨_, hw, ?_⟩, hc.toBelow hb b1⟩
  rintro k (hk | hk)
  · exact b1 k hk
  · exact Nat.le_trans hb.size hk
theorem OneW.bytes {w W : World} {g : Nat} {B : List Bool} (h : OneW w W g B) (hB : B.length ≤ 1000000) :
    Calls Try.prog 44 #[.pointer (some ⟨g, 0, none⟩)] W fun e w' => ∃ v, e = .returned v ∧ (Kd.int .u8).R 5 w' W.heap.size (fun _ => True) v (pack B) ∧ Below W.heap.size W w' := by
  obtain ⟨⟨S, h1, _⟩, hb⟩ := h
  exact XBits.bytes _ g S _ _ W h1 (by rw [pack_len]; omega)
theorem allBits_split (l : List (Int × Int)) (i : Nat) (hi : i < l.length) : allBits l = allBits (l.take i) ++ (vbits (l[i]).1 (clampN (l[i]).2) ++ allBits (l.drop (i + 1))) := by
  have app : ∀ a b : List (Int × Int), allBits (a ++ b) = allBits a ++ allBits b := by
    intro a b
    induction a with
    | nil => simp [allBits]
    | cons x a ih => rw [List.cons_append, allBits, allBits, ih, List.append_assoc]
  conv => lhs; rw [← List.take_append_drop i l, app]
  rw [List.drop_eq_getElem_cons hi, allBits]
theorem back_value (l : List (Int × Int)) (i : Nat) (hi : i < l.length) : takeV (pack (allBits l)) (allBits (l.take i)).length (clampN (l[i]).2) = ((unum (l[i]).1 % 2 ^ clampN (l[i]).2 : Nat) : Int) := by
  have hs := allBits_split l i hi
  have hN := clamp_le (l[i]).2
  obtain ⟨N, hNe⟩ : ∃ N, N = clampN (l[i]).2 := ⟨_, rfl⟩
  rw [← hNe] at hs hN ⊢
  obtain ⟨v, hv⟩ : ∃ v, v = (l[i]).1 := ⟨_, rfl⟩
  rw [← hv] at hs ⊢
  obtain ⟨B, hB⟩ : ∃ B, B = allBits l := ⟨_, rfl⟩
  rw [← hB] at hs ⊢
  generalize allBits (l.take i) = P at *
  generalize allBits (l.drop (i + 1)) = R at *
  have hl : B.length = P.length + (N + R.length) := by rw [hs, List.length_append, List.length_append, vbits_len]
  have hp := pack_bounds B
  rw [takeV_eq (pack B) (rb_range B _) B P.length N (by omega) (by omega) (fun j h _ => pack_bit B j h)]
  rw [takeB_vbits v B P.length N hN (by omega) (fun j hj => by
    have hlt : P.length + j < (P ++ (vbits v N ++ R)).length := by rw [← hs]; omega
    have e : B[P.length + j]'(by omega) = (P ++ (vbits v N ++ R))[P.length + j]'hlt := by simp only [hs]
    rw [e, List.getElem_append_right (by omega)]
    simp only [Nat.add_sub_cancel_left]
    rw [List.getElem_append_left (by rw [vbits_len]; exact hj), vbits_get]) N (Nat.le_refl _)]
  rw [Nat.sub_self, Nat.pow_zero, Nat.div_one]
set_option maxHeartbeats 8000000 in
set_option maxRecDepth 100000 in
theorem bitsBack (A0 : Option Addr) (c0 : Nat) (l : List (Int × Int)) (w : World) (hr0 : kP.C w A0 l.length l) (hc0 : l.length ≤ c0) (hw0 : ∀ p ∈ l, (Lit.int .i64 p.1).wf = true ∧ (Lit.int .i64 p.2).wf = true) :
    Calls Try.prog 10 #[.slice A0 l.length c0] w fun e w' => e = .returned (.bool true) ∧ Below w.heap.size w w' := by
  have HR := Aside0.mk hr0
  have HWF := Aside0.mk hw0
  clear hr0 hc0 hw0
  by_cases hl : 200 < l.length
  · have h1 : decide ((200 : Int) < (l.length : Int)) = true := decide_eq_true (by omega)
    clear hl
    go_enter Try.func10, Try.ntmps10
    go_wp2_with (go_at_call 36; (with_reducible refine (alive4 _).mono ?_); rintro e w1 ⟨rfl, hb⟩; have HB1 := Aside0.mk hb; clear hb)
    go_ret
    exact ⟨rfl, HB1.out⟩
  have h1 : decide ((200 : Int) < (l.length : Int)) = false := decide_eq_false (by omega)
  have HL := Aside0.mk (show l.length ≤ 200 by omega)
  clear hl
  go_enter Try.func10, Try.ntmps10
  go_wp2_with (go_at_call 36; (with_reducible refine (alive4 _).mono ?_); rintro e w1 ⟨rfl, hb⟩; have HB1 := Aside0.mk hb; clear hb)
  obtain ⟨g, e1⟩ : ∃ g, g = w1.heap.size := ⟨_, rfl⟩
  have HT : Aside0 (OneW w (w1.alloc (.cells #[.slice none 0 0, .int .i64 0] 62)) g []) := by
    have a1 := ws_new' w1 w.heap.size HB1.out.size
    rw [← e1] at a1
    exact ⟨⟨_, a1, fun k hk => by have := HB1.out.size; omega⟩, below_alloc HB1.out _⟩
  rw [← e1]
  clear e1 HB1
  go_loopg [5] l.length (fun kq v5 w' => ∃ i : Nat, kq + i = l.length ∧ v5 = .int .i64 i ∧ Aside0 (OneW w w' g (allBits (l.take i))))
  case atStart => exact ⟨0, rfl, rfl, HT⟩
  case round =>
    clear HT
    obtain ⟨i, hk, rfl, HT⟩ := hrel
    by_cases hi : i < l.length
    · obtain ⟨k1, rfl⟩ : ∃ k1, gk = k1 + 1 := ⟨gk - 1, by omega⟩
      have hib : decide ((i : Int) < (l.length : Int)) = true := decide_eq_true (by omega)
      have HAB := Aside0.mk (show (allBits (l.take i)).length ≤ 12800 by have h2 : (l.take i).length ≤ 200 := (by have := HL.out; rw [List.length_take]; omega); have := allBits_len (l.take i); omega)
      obtain ⟨ad, e, q0, q1⟩ := at_P (Kd.C_below HR.out HT.out.b) i hi
      subst e
      have hi0 : (0 : Int) ≤ (i : Int) := by omega
      have hi1 : (i : Int) < (l.length : Int) := by omega
      obtain ⟨x, hx⟩ : ∃ x, x = (l[i]).1 := ⟨_, rfl⟩
      obtain ⟨y, hy⟩ : ∃ y, y = (l[i]).2 := ⟨_, rfl⟩
      rw [← hx] at q0
      rw [← hy] at q1
      have HX := Aside0.mk hx
      have HY := Aside0.mk hy
      clear hx hy
      go_wp2
      go_still_tail 11, (by kernel_rfl)
      change wpList _ _ _ _ _ wr.drew
      have HT1 := Aside0.mk (HT.out.below (below_drew (Below.refl _ _)))
      generalize wr.drew = W1 at HT1 ⊢
      clear q0 q1 HT
      go_wp2_with fail
      refine (HT1.out.put x y (by have := HAB.out; omega)).mono ?_
      rintro e W2 ⟨rfl, ht⟩
      have hB : allBits (l.take i) ++ vbits x (clampN y) = allBits (l.take (i + 1)) := by
        rw [HX.out, HY.out, ← allBits_snoc, ← List.take_succ_eq_append_getElem hi]
      rw [hB] at ht
      have HT2 := Aside0.mk ht
      clear ht HT1 hB
      go_wp2
      go_roundg k1
      case measure => omega
      case rel => exact ⟨i + 1, by omega, by first | rfl | exact congrArg (Value.int .i64) (by have := HL.out; unfold wrap64; omega), HT2⟩
    · obtain rfl : i = l.length := by omega
      have hib : decide (((l.length : Nat) : Int) < (l.length : Int)) = false := decide_eq_false (by omega)
      rw [List.take_length] at HT
      have HAB := Aside0.mk (show (allBits l).length ≤ 12800 by have := allBits_len l; have := HL.out; omega)
      go_wp2_with (first | (go_at_call 44; (with_reducible refine (HT.out.bytes (by have := HAB.out; omega)).mono ?_); rintro e w2 ⟨v2, rfl, hv2, hb2⟩; obtain ⟨A2, c2, e2⟩ := Kd.R_slice hv2; subst e2; have HB2 := Aside0.mk (below_step HT.out.b hb2); have HV2 := Aside0.mk hv2; clear hv2 hb2 HT) | (go_at_call 37; (with_reducible refine (newreader A2 c2 _ w2 (Kd.R_reads' HV2.out).2.2 (Kd.R_reads' HV2.out).2.1 (by rw [pack_len]; have := HAB.out; omega)).mono ?_); rintro e w3 ⟨g2, rfl, hr3, hb3, hg3, hg3'⟩; have HB3 := Aside0.mk (below_step HB2.out hb3); have HR3 := Aside0.mk hr3; have HG3 := Aside0.mk hg3; have HG3' := Aside0.mk hg3'; have HW3 := Aside0.mk (show w.heap.size ≤ w2.heap.size from HB2.out.size); clear HB2 hr3 hb3 hg3 hg3'))
      clear HV2
      obtain ⟨B, hB⟩ : ∃ B, B = pack (allBits l) := ⟨_, rfl⟩
      rw [← hB] at HR3 ⊢
      have EB := Aside0.mk hB
      have HBL := Aside0.mk (show B.length ≤ 100000 ∧ (allBits l).length ≤ 8 * B.length ∧ 8 * B.length < (allBits l).length + 8 by have := pack_bounds (allBits l); rw [hB, pack_len] at *; have := HAB.out; omega)
      clear hB
      go_loopg [7] l.length (fun kq v7 w' => ∃ i : Nat, kq + i = l.length ∧ v7 = .int .i64 i ∧ Aside0 (RS w' (fun k => w2.heap.size ≤ k ∧ k < g2) g2 B ((allBits (l.take i)).length : Nat)) ∧ Aside0 (Below w.heap.size w w') ∧ Aside0 (g2 < w'.heap.size))
      case atStart => exact ⟨0, rfl, rfl, HR3, HB3, HG3'⟩
      case round =>
        clear HR3 HB3 HG3'
        obtain ⟨i, hk, rfl, HR3, HB3, HG3'⟩ := hrel
        by_cases hi : i < l.length
        · obtain ⟨k1, rfl⟩ : ∃ k1, gk = k1 + 1 := ⟨gk - 1, by omega⟩
          have hib : decide ((i : Int) < (l.length : Int)) = true := decide_eq_true (by omega)
          obtain ⟨ad, e, q0, q1⟩ := at_P (Kd.C_below HR.out HB3.out) i hi
          subst e
          have hi0 : (0 : Int) ≤ (i : Int) := by omega
          have hi1 : (i : Int) < (l.length : Int) := by omega
          have hval := back_value l i hi
          have hwf := HWF.out _ (List.getElem_mem hi)
          have hstep : (allBits (l.take (i + 1))).length = (allBits (l.take i)).length + clampN (l[i]).2 := by
            rw [List.take_succ_eq_append_getElem hi, allBits_snoc, List.length_append, vbits_len]
          have hfull : (allBits (l.take i)).length + clampN (l[i]).2 ≤ (allBits l).length := by
            have := congrArg List.length (allBits_split l i hi)
            rw [List.length_append, List.length_append, vbits_len] at this
            omega
          obtain ⟨x, hx⟩ : ∃ x, x = (l[i]).1 := ⟨_, rfl⟩
          obtain ⟨y, hy⟩ : ∃ y, y = (l[i]).2 := ⟨_, rfl⟩
          rw [← hx] at q0 hval hwf
          rw [← hy] at q1 hval hwf hstep hfull
          obtain ⟨N, hN⟩ : ∃ N, N = clampN y := ⟨_, rfl⟩
          rw [← hN] at hval hstep hfull
          rw [← EB.out] at hval
          have HVAL := Aside0.mk hval
          have HWX := Aside0.mk (wf_i64 hwf.1)
          have HST := Aside0.mk hstep
          have HFU := Aside0.mk hfull
          have HX := Aside0.mk hx
          have HN := Aside0.mk hN
          have HN64 := Aside0.mk (show N ≤ 64 by rw [hN]; exact clamp_le y)
          clear hval hwf hstep hfull hx hy hN
          go_upto_if 58 with fail
          go_cut [8] (fun v8 wc => v8 = .int .i64 (if y < 0 then 0 else y) ∧ wc = wr)
          case first =>
            by_cases h : y < 0
            · have h1 : decide (y < 0) = true := decide_eq_true h
              go_wp2
              go_meet
              case rel => exact ⟨by rw [if_pos h], rfl⟩
            · have h1 : decide (y < 0) = false := decide_eq_false h
              go_wp2
              go_meet
              case rel => exact ⟨by rw [if_neg (by omega)], rfl⟩
          case rest =>
          obtain ⟨rfl, rfl⟩ := hcut
          obtain ⟨y1, hy1⟩ : ∃ y1, y1 = (if y < 0 then 0 else y) := ⟨_, rfl⟩
          rw [← hy1]
          have HY1 := Aside0.mk (show (if 64 < y1 then 64 else y1) = (N : Int) by rw [hy1, HN.out]; unfold clampN; split <;> split <;> (try split) <;> omega)
          clear hy1
          go_upto_if 60 with fail
          go_cut [8] (fun v8 wc' => v8 = .int .i64 (N : Int) ∧ wc' = wc)
          case first =>
            have hmn := HY1.out
            by_cases h : 64 < y1
            · have h1 : decide (64 < y1) = true := decide_eq_true h
              rw [if_pos h] at hmn
              have HMM := Aside0.mk hmn
              clear hmn
              go_wp2
              go_meet
              case rel => exact ⟨by rw [← HMM.out], rfl⟩
            · have h1 : decide (64 < y1) = false := decide_eq_false h
              rw [if_neg h] at hmn
              have HMM := Aside0.mk hmn
              clear hmn
              go_wp2
              go_meet
              case rel => exact ⟨by rw [← HMM.out], rfl⟩
          case rest =>
          obtain ⟨rfl, rfl⟩ := hcut
          clear HY1
          go_wp2_with fail
          refine (get_ok g2 B (allBits (l.take i)).length N _ _ HR3.out (fun k hk => by have := HG3'.out; omega) (by have := HBL.out; omega) HN64.out (by have := HBL.out; have := HFU.out; omega)).mono ?_
          rintro e w4 ⟨rfl, hr, hc⟩
          obtain ⟨V, hV⟩ : ∃ V, V = wrap64 ((unum x % 2 ^ N : Nat) : Int) := ⟨_, rfl⟩
          rw [HVAL.out, ← hV]
          have HV := Aside0.mk hV
          clear hV
          rw [← HST.out] at hr
          have HR4 := Aside0.mk hr
          have HB4 := Aside0.mk (hc.toBelow HB3.out (fun k hk => by have := HG3.out; have := HW3.out; omega))
          have HG4 := Aside0.mk (Nat.lt_of_lt_of_le HG3'.out hc.kept.1)
          clear hr hc HR3 HB3 HG3' q0 q1
          obtain ⟨ad', e, q0, q1⟩ := at_P (Kd.C_below HR.out HB4.out) i hi
          cases e
          rw [← HX.out] at q0
          clear q1
          by_cases hN64 : N < 64
          · have c1 : decide ((N : Int) < 64) = true := decide_eq_true (by omega)
            have hN0 : (0 : Int) ≤ (N : Int) := by omega
            have hNu : IntKind.u64.wrap (N : Int) = (N : Int) := by rw [IntKind.wrap_u64]; omega
            have hNz : (N : Int) < 64 := by omega
            have hmask : Go.bits .and .i64 x (wrap64 (wrap64 (2 ^ N) - 1)) = V := by rw [HV.out]; exact want_mask x N hN64 HWX.out.1 HWX.out.2
            go_wp2_with (go_at_call 41; (with_reducible refine (lysimeterlaw4_num.calls 0 0 _ rfl).mono ?_); rintro e w5 ⟨rfl, hd⟩; have HB5 := Aside0.mk (below_step HB4.out hd.below); have HR5 := Aside0.mk (HR4.out.chg ((Chg.refl _ (fun _ => False)).below hd.below) (fun _ h => h.elim)); have HG5 := Aside0.mk (Nat.lt_of_lt_of_le HG4.out hd.below.size); clear hd HR4 HB4 HG4)
            go_roundg k1
            case measure => omega
            case rel => exact ⟨i + 1, by omega, by first | rfl | exact congrArg (Value.int .i64) (by have := HL.out; unfold wrap64; omega), HR5, HB5, HG5⟩
          · have c1 : decide ((N : Int) < 64) = false := decide_eq_false (by omega)
            obtain rfl : N = 64 := by have := HN64.out; omega
            have hxV : x = V := by rw [HV.out]; exact (want_full x HWX.out.1 HWX.out.2).symm
            rw [hxV] at q0
            clear hxV hN64
            go_wp2_with (go_at_call 41; (with_reducible refine (lysimeterlaw4_num.calls 0 0 _ rfl).mono ?_); rintro e w5 ⟨rfl, hd⟩; have HB5 := Aside0.mk (below_step HB4.out hd.below); have HR5 := Aside0.mk (HR4.out.chg ((Chg.refl _ (fun _ => False)).below hd.below) (fun _ h => h.elim)); have HG5 := Aside0.mk (Nat.lt_of_lt_of_le HG4.out hd.below.size); clear hd HR4 HB4 HG4)
            go_roundg k1
            case measure => omega
            case rel => exact ⟨i + 1, by omega, by first | rfl | exact congrArg (Value.int .i64) (by have := HL.out; unfold wrap64; omega), HR5, HB5, HG5⟩
        · obtain rfl : i = l.length := by omega
          have hib : decide (((l.length : Nat) : Int) < (l.length : Int)) = false := decide_eq_false (by omega)
          rw [List.take_length] at HR3
          have hlt : decide (8 * (B.length : Int) - ((allBits l).length : Int) < 8) = true := decide_eq_true (by have := HBL.out; omega)
          go_wp2_with (go_at_call 42; (with_reducible refine (left g2 B (allBits l).length _ _ HR3.out (by have := HBL.out; omega) (by have := HBL.out; omega)).mono ?_); rintro e w4 ⟨rfl, m, rfl⟩)
          go_ret
          exact ⟨rfl, pw_below_drewN HB3.out m⟩
end Go.Proofs.Ytjilnpbgclnecaa.XBits
