/- The law BitsReads, walked: its call comes to true. -/
import Derived.Test.YtjilnpbgclnecaaXBitsB
namespace Go.Proofs.Ytjilnpbgclnecaa.XBits
open Go.RowKit Go.Proofs.YtjilnpbgclnecaaW.PrintWords Go.Proofs.YtjilnpbgclnecaaW.PrintLast Go.Proofs.YtjilnpbgclnecaaW.PrintMore Go.Proofs.Ytjilnpbgclnecaa.XB Go.Proofs.Ytjilnpbgclnecaa.XH Go.Proofs.Ytjilnpbgclnecaa.PBitsReads Go.Proofs.Ytjilnpbgclnecaa.XP
attribute [local go_sem] sg_u8 sg_u16 sg_u32 sg_u64 mx_u8 mx_u16 mx_u32 mx_u64
attribute [local go_sem] max_two min_two
set_option linter.unusedVariables false
set_option linter.unusedSimpArgs false
def resE (l : List Int) (p : Nat) (y : Int) : Int := if y < 0 ∨ 64 < y then 1 else if 8 * (l.length : Int) - (p : Int) < y then 5 else 0
def resV (l : List Int) (p : Nat) (y : Int) : Int := if resE l p y = 0 then wrap64 (takeV l p y.toNat) else 0
def resP (l : List Int) (p : Nat) (y : Int) : Nat := if resE l p y = 0 then p + y.toNat else p
theorem resP_le (l : List Int) (p : Nat) (y : Int) (hp : p ≤ 8 * l.length) : resP l p y ≤ 8 * l.length := by
  unfold resP
  by_cases h : resE l p y = 0
  · rw [if_pos h]
    unfold resE at h
    by_cases h1 : y < 0 ∨ 64 < y
    · rw [if_pos h1] at h; cases h
    · rw [if_neg h1] at h
      by_cases h2 : 8 * (l.length : Int) - (p : Int) < y
      · rw [if_pos h2] at h; cases h
      · omega
  · rw [if_neg h]; exact hp
theorem get_any (g : Nat) (l : List Int) (p : Nat) (y : Int) (ok : Nat → Prop) (w : World) (hI : RS w ok g l p) (hlt : ∀ k, ok k → k < w.heap.size) (hl : l.length ≤ 1000000) (hp : p ≤ 8 * l.length) :
    Calls Try.prog 39 #[.pointer (some ⟨g, 0, none⟩), .int .i64 y] w fun e w' => e = .returned (.tuple #[.int .i64 (resV l p y), .int .i64 (resE l p y)]) ∧ RS w' ok g l (resP l p y) ∧ Chg w w' (fun k => k = g) := by
  by_cases h1 : y < 0 ∨ 64 < y
  · have e1 : resE l p y = 1 := if_pos h1
    have e2 : resV l p y = 0 := by unfold resV; rw [e1]; rfl
    have e3 : resP l p y = p := by unfold resP; rw [e1]; rfl
    rw [e1, e2, e3]
    exact get_arg g l p y ok w hI hlt h1
  · by_cases h2 : 8 * (l.length : Int) - (p : Int) < y
    · have e1 : resE l p y = 5 := by unfold resE; rw [if_neg h1, if_pos h2]
      have e2 : resV l p y = 0 := by unfold resV; rw [e1]; rfl
      have e3 : resP l p y = p := by unfold resP; rw [e1]; rfl
      rw [e1, e2, e3]
      exact get_byte g l p y ok w hI hlt hl hp (by omega) (by omega) h2
    · have e1 : resE l p y = 0 := by unfold resE; rw [if_neg h1, if_neg h2]
      have e2 : resV l p y = wrap64 (takeV l p y.toNat) := by unfold resV; rw [e1]; rfl
      have e3 : resP l p y = p + y.toNat := by unfold resP; rw [e1]; rfl
      rw [e1, e2, e3]
      have z := get_ok g l p y.toNat ok w hI hlt hl (by omega) (by omega)
      rw [Int.toNat_of_nonneg (by omega)] at z
      exact z
theorem refget_any (g : Nat) (l : List Int) (hr : ∀ x ∈ l, 0 ≤ x ∧ x ≤ 255) (p : Nat) (y : Int) (ok : Nat → Prop) (w : World) (hI : BR w ok g (ofb l) p) (hl : l.length ≤ 1000000) (hp : p ≤ 8 * l.length) :
    Calls Try.prog 40 #[.pointer (some ⟨g, 0, none⟩), .int .i64 y] w fun e w' => e = .returned (.tuple #[.int .i64 (resV l p y), .int .i64 (resE l p y)]) ∧ BR w' ok g (ofb l) (resP l p y) ∧ Chg w w' (fun k => k = g) := by
  have hL := ofb_len l
  by_cases h1 : y < 0 ∨ 64 < y
  · have e1 : resE l p y = 1 := if_pos h1
    have e2 : resV l p y = 0 := by unfold resV; rw [e1]; rfl
    have e3 : resP l p y = p := by unfold resP; rw [e1]; rfl
    rw [e1, e2, e3]
    exact refget_bad g (ofb l) p y 1 ok w hI (by omega) (by omega) (.inl ⟨rfl, h1⟩)
  · by_cases h2 : 8 * (l.length : Int) - (p : Int) < y
    · have e1 : resE l p y = 5 := by unfold resE; rw [if_neg h1, if_pos h2]
      have e2 : resV l p y = 0 := by unfold resV; rw [e1]; rfl
      have e3 : resP l p y = p := by unfold resP; rw [e1]; rfl
      rw [e1, e2, e3]
      exact refget_bad g (ofb l) p y 5 ok w hI (by omega) (by omega) (.inr ⟨rfl, by omega, by omega, by omega⟩)
    · have e1 : resE l p y = 0 := by unfold resE; rw [if_neg h1, if_neg h2]
      have e2 : resV l p y = wrap64 (takeV l p y.toNat) := by unfold resV; rw [e1]; rfl
      have e3 : resP l p y = p + y.toNat := by unfold resP; rw [e1]; rfl
      rw [e1, e2, e3]
      have z := refget_ok g (ofb l) p y.toNat ok w hI (by omega) (by omega) (by omega)
      rw [Int.toNat_of_nonneg (by omega)] at z
      rw [takeV_eq l hr (ofb l) p y.toNat (by omega) (by omega) (fun i h _ => (ofb_get l i h).symm)]
      exact z
theorem num_q (x : Int) (w : World) : Calls Try.prog 41 #[.int .i64 x] w fun e w' => e = .returned (.int .i64 x) ∧ ∃ n, w' = w.drewN n :=
  (lysimeterlaw4_num.calls x x w rfl).mono fun e w' ⟨he, hd⟩ => ⟨he, hd.out⟩
set_option maxHeartbeats 8000000 in
set_option maxRecDepth 100000 in
theorem bitsReads (A0 A1 : Option Addr) (c0 c1 : Nat) (l ws : List Int) (w : World) (hr0 : (Kd.int .u8).C w A0 l.length l) (hc0 : l.length ≤ c0) (hr1 : (Kd.int .i64).C w A1 ws.length ws) (hc1 : ws.length ≤ c1) (hl0 : ∀ x ∈ l, 0 ≤ x ∧ x ≤ 255) :
    Calls Try.prog 9 #[.slice A0 l.length c0, .slice A1 ws.length c1] w fun e w' => e = .returned (.bool true) ∧ Below w.heap.size w w' := by
  have HR0 := Aside0.mk hr0
  have HR1 := Aside0.mk hr1
  have HC0 := Aside0.mk hc0
  have HL0 := Aside0.mk hl0
  clear hr0 hr1 hc0 hc1 hl0
  by_cases hl : 2000 < l.length
  · have h1 : decide ((2000 : Int) < (l.length : Int)) = true := decide_eq_true (by omega)
    clear hl
    go_enter Try.func9, Try.ntmps9
    go_wp2_with (go_at_call 36; (with_reducible refine (alive4 _).mono ?_); rintro e w1 ⟨rfl, hb⟩; have HB1 := Aside0.mk hb; clear hb)
    go_ret
    exact ⟨rfl, HB1.out⟩
  have h1 : decide ((2000 : Int) < (l.length : Int)) = false := decide_eq_false (by omega)
  have HL := Aside0.mk (show l.length ≤ 2000 by omega)
  clear hl
  by_cases hl : 300 < ws.length
  · have h2 : decide ((300 : Int) < (ws.length : Int)) = true := decide_eq_true (by omega)
    clear hl
    go_enter Try.func9, Try.ntmps9
    go_wp2_with (go_at_call 36; (with_reducible refine (alive4 _).mono ?_); rintro e w1 ⟨rfl, hb⟩; have HB1 := Aside0.mk hb; clear hb)
    go_ret
    exact ⟨rfl, HB1.out⟩
  have h2 : decide ((300 : Int) < (ws.length : Int)) = false := decide_eq_false (by omega)
  have HL2 := Aside0.mk (show ws.length ≤ 300 by omega)
  clear hl
  obtain ⟨kof, hof⟩ := of_some l HL0.out (by have := HL.out; omega)
  have HOF := Aside0.mk hof
  clear hof
  go_enter Try.func9, Try.ntmps9
  go_wp2_with (first | (go_at_call 36; (with_reducible refine (alive4 _).mono ?_); rintro e w1 ⟨rfl, hb⟩; have HB1 := Aside0.mk hb; clear hb) | ((with_reducible refine gate_builtin (b := .append) (xs := #[.const (.slice none 0 0), .tmp 29]) rfl ?_); at_builtin; refine Kd.R_append_rows (Kd.int .u8) (w0 := w) w.heap.size rfl (.const (.slice none 0 0)) (.tmp 29) 22 5 (.int .u8 0) 1 rfl Try.underlying22 info5 rfl (by decide) (by omega) (.slice none 0 0) ([] : List Int) l _ _ _ (fun _ => True) (fun _ => False) rfl rfl ?aO ?aR (fun _ _ h => h) (fun _ h => h.elim) ?aF ?aB ?aS ?aL ?_; (case aR => exact Kd.C_below HR0.out HB1.out); (case aB => exact HB1.out); (case aF => exact (fun _ _ => trivial)); (case aO => exact Kd.R_nil _ _ _ _ _); (case aS => exact HB1.out.size); (case aL => have := HL.out; simp; omega); intro v6 w2 ho hb hg hat; rw [List.nil_append] at ho; obtain ⟨A6, c6, e6⟩ := Kd.R_slice ho; subst e6; have HO := Aside0.mk ho; have HB2 := Aside0.mk hb; clear ho hb hg hat HB1) | (go_at_call 37; (with_reducible refine (newreader A6 c6 _ w2 (Kd.R_reads' HO.out).2.2 (Kd.R_reads' HO.out).2.1 (by have := HL.out; omega)).mono ?_); rintro e w3 ⟨g, rfl, hr3, hb3, hg3, hg3'⟩; have HB3 := Aside0.mk (below_step HB2.out hb3); have HR3 := Aside0.mk hr3; have HG3 := Aside0.mk hg3; have HG3' := Aside0.mk hg3'; have HW2 := Aside0.mk (show w.heap.size ≤ w2.heap.size from HB2.out.size); have HO3 := Aside0.mk (Kd.R_below (Kd.R_mono (ok' := fun k => w.heap.size ≤ k ∧ k < w2.heap.size) (Kd.R_bound HO.out) (fun k hk => ⟨hk.2.1, hk.2.2.1⟩)) hb3); clear HB2 HO hr3 hb3 hg3 hg3'))
  obtain ⟨q, hq⟩ : ∃ q, q = l.length := ⟨_, rfl⟩
  have HO4 : Aside0 (∃ p : List Int, p.length = q ∧ (Kd.int .u8).R 5 w3 w.heap.size (fun k => w.heap.size ≤ k ∧ k < w2.heap.size) (.slice A6 q c6) p) := ⟨l, hq.symm, by rw [hq]; exact HO3.out⟩
  have HQ := Aside0.mk hq
  rw [show Value.slice A6 l.length c6 = .slice A6 q c6 by rw [hq]]
  clear hq HO3
  go_loopg [8] q (fun kq v8 w' => ∃ j : Nat, kq + j = q ∧ v8 = .int .i64 j ∧ Aside0 (∃ p : List Int, p.length = q ∧ (Kd.int .u8).R 5 w' w.heap.size (fun k => w.heap.size ≤ k ∧ k < w2.heap.size) (.slice A6 q c6) p) ∧ Aside0 (Chg w3 w' (fun k => w.heap.size ≤ k ∧ k < w2.heap.size)))
  case atStart => exact ⟨0, rfl, rfl, HO4, ⟨Chg.refl _ _⟩⟩
  case round =>
    clear HO4
    obtain ⟨j, hkj, rfl, HV, HC⟩ := hrel
    by_cases hj : j < q
    · obtain ⟨k2, rfl⟩ : ∃ k2, gk = k2 + 1 := ⟨gk - 1, by omega⟩
      have hjb : decide ((j : Int) < (q : Int)) = true := decide_eq_true (by omega)
      have hj0 : (0 : Int) ≤ (j : Int) := by omega
      have hj1 : (j : Int) < (q : Int) := by omega
      obtain ⟨p, hp, hv⟩ := HV.out
      obtain ⟨b2, cc2, e2, hbb, hbl, _⟩ := Kd.R_form hv (by omega)
      injection e2 with e2 e4 e3
      subst e2 e3
      have HPP := Aside0.mk hp
      clear e4 hp
      obtain ⟨hcl, hcf⟩ := Kd.R_celln 0 hv (j : Int) hj0 hj1
      rw [Int.toNat_natCast] at hcl hcf
      obtain ⟨x2, hx2⟩ : ∃ x2, x2 = rdOf 0 p (j : Int) := ⟨_, rfl⟩
      rw [← hx2] at hcl
      clear hx2
      have HVV := Aside0.mk hv
      clear hv hbb
      go_wp2
      go_roundg k2
      case measure => omega
      case rel =>
        refine ⟨j + 1, by omega, by first | rfl | exact congrArg (Value.int .i64) (by have := HQ.out; have := HL.out; unfold wrap64; omega), ⟨p.set j (Go.bits .xor .u8 x2 255), by rw [List.length_set]; exact HPP.out, ?_⟩, ⟨?_⟩⟩
        · have hp := Kd.R_putn HVV.out (j : Int) (Go.bits .xor .u8 x2 255)
          rw [Int.toNat_natCast] at hp
          exact hp
        · exact HC.out.set (p := ⟨b2, j, none⟩) (.inl (HVV.out.1 b2 rfl)) _
    · obtain rfl : j = q := by omega
      have hjb : decide (((j : Nat) : Int) < (j : Int)) = false := decide_eq_false (by omega)
      have HB4 := Aside0.mk (HC.out.toBelow HB3.out (fun k hk => hk.1))
      have HR4 := Aside0.mk (HR3.out.chg HC.out (fun k hk => ⟨by have := HG3.out; omega, fun hok => by omega⟩))
      have HG4 := Aside0.mk (Nat.lt_of_lt_of_le HG3'.out HC.out.kept.1)
      clear HR3 HB3 HG3' HV HC
      go_wp2_with (go_at_call 38; (with_reducible refine (lysimeterref4_Of.calls kof _ _ l (ofb l) _ (Kd.C_below HR0.out HB4.out) HC0.out HOF.out).mono ?_); rintro e w5 ⟨v5, rfl, hv5, hb5⟩; obtain ⟨A5, c5, e5⟩ := Kd.R_slice hv5; subst e5; have HV5 := Aside0.mk hv5; have HB5 := Aside0.mk (below_step HB4.out hb5); have HR5 := Aside0.mk (HR4.out.chg ((Chg.refl _ (fun _ => False)).below hb5) (fun _ h => h.elim)); have HG5 := Aside0.mk (Nat.lt_of_lt_of_le HG4.out hb5.size); have HW5 := Aside0.mk hb5.size; clear hv5 hb5 HB4 HR4)
      obtain ⟨gx, hgx⟩ : ∃ gx, gx = w5.heap.size := ⟨_, rfl⟩
      obtain ⟨nw, hnw⟩ : ∃ n, n = wr.heap.size := ⟨_, rfl⟩
      have HX6 : Aside0 (BR (w5.alloc (.cells #[.slice A5 (ofb l).length c5, .int .i64 0] 52)) (fun k => nw ≤ k ∧ k < gx) gx (ofb l) ((0 : Nat) : Int)) := ⟨⟨⟨A5, c5, by rw [hgx]; exact blk_new _ _, Kd.F_alloc (Kd.R_F (Kd.R_mono (Kd.R_bound HV5.out) (fun k hk => ⟨by rw [hnw]; exact hk.2.1, by rw [hgx]; exact hk.2.2.1⟩))) _⟩, fun h => Nat.lt_irrefl _ h.2⟩⟩
      have hb6 : Below w5.heap.size w5 (w5.alloc (.cells #[.slice A5 (ofb l).length c5, .int .i64 0] 52)) := below_alloc (Below.refl _ _) _
      have HR6 : Aside0 (RS (w5.alloc (.cells #[.slice A5 (ofb l).length c5, .int .i64 0] 52)) (fun k => w2.heap.size ≤ k ∧ k < g) g l ((0 : Nat) : Int)) := ⟨HR5.out.chg ((Chg.refl _ (fun _ => False)).below hb6) (fun _ h => h.elim)⟩
      have HB6 := Aside0.mk (below_step HB5.out hb6)
      have HGG := Aside0.mk (show g < nw ∧ nw ≤ gx by have := HG4.out; have := HW5.out; omega)
      rw [← hgx]
      clear hb6 HV5 hgx hnw HR5 HB5 HG5 HW5 HG4
      have HOL := Aside0.mk (ofb_len l)
      obtain ⟨L, hL⟩ : ∃ L, L = (ofb l).length := ⟨_, rfl⟩
      have HLL := Aside0.mk hL
      clear hL
      go_loopg [10] ws.length (fun kq v10 w' => ∃ (i p : Nat), kq + i = ws.length ∧ v10 = .int .i64 i ∧ Aside0 (p ≤ 8 * l.length) ∧ Aside0 (RS w' (fun k => w2.heap.size ≤ k ∧ k < g) g l (p : Int)) ∧ Aside0 (BR w' (fun k => nw ≤ k ∧ k < gx) gx (ofb l) (p : Int)) ∧ Aside0 (Below w.heap.size w w'))
      case atStart => exact ⟨0, 0, rfl, rfl, ⟨Nat.zero_le _⟩, HR6, HX6, HB6⟩
      case round =>
        clear HR6 HX6 HB6
        obtain ⟨i, p, hki, rfl, HP, HR, HX, HB⟩ := hrel
        by_cases hi : i < ws.length
        · obtain ⟨k1, rfl⟩ : ∃ k1, gk = k1 + 1 := ⟨gk - 1, by omega⟩
          have hib : decide ((i : Int) < (ws.length : Int)) = true := decide_eq_true (by omega)
          have hi0 : (0 : Int) ≤ (i : Int) := by omega
          have hi1 : (i : Int) < (ws.length : Int) := by omega
          obtain ⟨ad, e, hc⟩ := Kd.at_int (Kd.C_below HR1.out HB.out) (i : Int) hi0 hi1
          subst e
          rw [Int.toNat_natCast] at hc
          obtain ⟨y, hy⟩ : ∃ y, y = rd ws (i : Int) := ⟨_, rfl⟩
          rw [← hy] at hc
          have HY := Aside0.mk hy
          clear hy
          obtain ⟨V, hV⟩ : ∃ V, V = resV l p y := ⟨_, rfl⟩
          obtain ⟨E, hE⟩ : ∃ E, E = resE l p y := ⟨_, rfl⟩
          obtain ⟨p2, hp2⟩ : ∃ p2, p2 = resP l p y := ⟨_, rfl⟩
          have HP2 := Aside0.mk (show p2 ≤ 8 * l.length by rw [hp2]; exact resP_le l p y HP.out)
          have H39 := get_any g l p y (fun k => w2.heap.size ≤ k ∧ k < g) wr HR.out (fun k hk => by have := HR.out.lt; omega) (by have := HL.out; omega) HP.out
          have H40 := fun W h => refget_any gx l HL0.out p y (fun k => nw ≤ k ∧ k < gx) W h (by have := HL.out; omega) HP.out
          rw [← hV, ← hE, ← hp2] at H39
          have H40' : ∀ W, BR W (fun k => nw ≤ k ∧ k < gx) gx (ofb l) (p : Int) → _ := fun W h => by have z := H40 W h; rw [← hV, ← hE, ← hp2] at z; exact z
          have HV := Aside0.mk hV
          have A39 := Aside0.mk H39
          have A40 := Aside0.mk H40'
          clear hV hE hp2 H39 H40 H40'
          go_wp2_with fail
          refine A39.out.mono ?_
          rintro e w7 ⟨rfl, hr, hch⟩
          have HR7 := Aside0.mk hr
          have HB7 := Aside0.mk (hch.toBelow HB.out (fun k hk => by have := HG3.out; have := HW2.out; omega))
          have HX7 := Aside0.mk (HX.out.chg hch (fun k hk => ⟨by have := HGG.out; omega, fun h => by have := HGG.out; omega⟩))
          clear hr hch HR HX HB hc A39
          obtain ⟨ad', e, hc⟩ := Kd.at_int (Kd.C_below HR1.out HB7.out) (i : Int) hi0 hi1
          cases e
          rw [Int.toNat_natCast, ← HY.out] at hc
          go_wp2_with fail
          refine (A40.out _ HX7.out).mono ?_
          rintro e w8 ⟨rfl, hx, hch⟩
          have HX8 := Aside0.mk hx
          have HB8 := Aside0.mk (hch.toBelow HB7.out (fun k hk => by have := HGG.out; have := HG3.out; have := HW2.out; omega))
          have HR8 := Aside0.mk (HR7.out.chg hch (fun k hk => ⟨by have := HGG.out; omega, fun h => by have := HGG.out; omega⟩))
          clear hx hch HR7 HX7 HB7 hc A40
          obtain ⟨⟨A8, c8, hb8, _⟩, _⟩ := HX8.out
          rw [← HLL.out] at hb8
          have z0 : w8.cell? ⟨gx, 0, none⟩ = some (.slice A8 L c8) := (blk_cell hb8 0).trans rfl
          have z1 : w8.cell? ⟨gx, 1, none⟩ = some (.int .i64 (p2 : Int)) := (blk_cell hb8 1).trans rfl
          clear hb8
          have hL8 : 8 * (l.length : Int) - (p2 : Int) = (L : Int) - (p2 : Int) := by have := HLL.out; have := HOL.out; omega
          have HL8 := Aside0.mk hL8
          have hw8 : IntKind.i64.wrap ((L : Int) - (p2 : Int)) = (L : Int) - (p2 : Int) := by rw [IntKind.wrap_i64]; have := HLL.out; have := HOL.out; have := HP2.out; have := HL.out; omega
          clear hL8
          have H42 : ∀ n : Nat, Calls Try.prog 42 #[.pointer (some ⟨g, 0, none⟩)] (w8.drewN n) fun e w' => e = .returned (.int .i64 ((L : Int) - (p2 : Int))) ∧ ∃ m, w' = (w8.drewN n).drewN m := fun n => by
            have z := left g l p2 _ (w8.drewN n) (HR8.out.chg ((Chg.refl _ (fun _ => False)).drewN n) (fun _ h => h.elim)) (by have := HL.out; omega) HP2.out
            rw [HL8.out] at z
            exact z
          have A42 := Aside0.mk H42
          clear H42
          go_wp2_with fail
          go_quiet ((first | (go_at_call 41; exact Calls.quiet_of (num_q _ _)) | (go_at_call 42; exact Calls.quiet_of (A42.out _))))
          clear z0 z1 hw8 A42
          go_wp2
          go_roundg k1
          case measure => omega
          case rel => exact ⟨i + 1, p2, by omega, by first | rfl | exact congrArg (Value.int .i64) (by have := HL2.out; unfold wrap64; omega), HP2, ⟨HR8.out.chg ((Chg.refl _ (fun _ => False)).drewN _) (fun _ h => h.elim)⟩, ⟨HX8.out.chg ((Chg.refl _ (fun _ => False)).drewN _) (fun _ h => h.elim)⟩, ⟨pw_below_drewN HB8.out _⟩⟩
        · obtain rfl : i = ws.length := by omega
          have hib : decide (((ws.length : Nat) : Int) < (ws.length : Int)) = false := decide_eq_false (by omega)
          go_wp2
          go_ret
          exact ⟨rfl, HB.out⟩
end Go.Proofs.Ytjilnpbgclnecaa.XBits
