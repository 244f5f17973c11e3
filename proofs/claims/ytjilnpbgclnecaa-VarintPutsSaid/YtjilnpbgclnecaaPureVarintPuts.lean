/- The bytes that the program's varint.Put and Signed tell of every number are the reference's, and Get and GetSigned read them again with anything behind them (statement VarintPuts); no condition. -/
import Derived.Test.YtjilnpbgclnecaaPVarintPutsx2
import Derived.Test.YtjilnpbgclnecaaXPure
set_option linter.unusedVariables false
set_option linter.unusedSimpArgs false
namespace Go.Proofs.Ytjilnpbgclnecaa.Pure
open Go Go.RowKit Go.Proofs.Ytjilnpbgclnecaa.PVarintPuts Go.Proofs.Ytjilnpbgclnecaa.XP Go.Proofs.YtjilnpbgclnecaaW.PrintWords Go.Proofs.YtjilnpbgclnecaaW.PrintLast Go.Proofs.YtjilnpbgclnecaaW.PrintMore

/-! ### numbers in few bytes -/
def vput (u : Nat) : List Int := if u < 128 then [(u : Int)] else ((u % 128 + 128 : Nat) : Int) :: vput (u / 128)
termination_by u
decreasing_by omega
theorem vput_small {u : Nat} (h : u < 128) : vput u = [(u : Int)] := by rw [vput, if_pos h]
theorem vput_big {u : Nat} (h : ¬ u < 128) : vput u = ((u % 128 + 128 : Nat) : Int) :: vput (u / 128) := by rw [vput, if_neg h]
theorem vput_len (n : Nat) : ∀ u, u < 2 ^ (7 * n) → 0 < n → 1 ≤ (vput u).length ∧ (vput u).length ≤ n := by
  induction n with
  | zero => intro u _ h; exact absurd h (by omega)
  | succ n ih =>
    intro u hu _
    by_cases h : u < 128
    · rw [vput_small h]; simp
    · rw [vput_big h]
      have hp : (2 : Nat) ^ (7 * (n + 1)) = 128 * 2 ^ (7 * n) := by rw [Nat.mul_add, Nat.pow_add]; omega
      have hn : 0 < n := by
        rcases Nat.eq_zero_or_pos n with h0 | h0
        · subst h0; simp at hp; omega
        · exact h0
      have := ih (u / 128) (by omega) hn
      simp only [List.length_cons]
      omega
theorem vput_len10 {u : Nat} (h : u < 18446744073709551616) : 1 ≤ (vput u).length ∧ (vput u).length ≤ 10 := vput_len 10 u (by omega) (by decide)
theorem vput_range (n : Nat) : ∀ u, u ≤ n → ∀ x ∈ vput u, 0 ≤ x ∧ x ≤ 255 := by
  induction n with
  | zero =>
    intro u hu x hx
    rw [vput_small (by omega)] at hx
    simp at hx
    omega
  | succ n ih =>
    intro u hu x hx
    by_cases h : u < 128
    · rw [vput_small h] at hx; simp at hx; omega
    · rw [vput_big h] at hx
      rcases List.mem_cons.1 hx with rfl | hx
      · omega
      · exact ih (u / 128) (by omega) x hx
theorem put_l0 (n : Nat) : ∀ (u : Nat) (acc : List Int), u ≤ n → acc.length + (vput u).length < 140737488355328 → Ev (fun k => varint_Put.l0 k acc (u : Int)) (acc ++ vput u) := by
  induction n with
  | zero =>
    intro u acc hu hl
    refine Ev.step (f := fun _ => some (acc ++ vput u)) (fun k => ?_) (Ev.now _)
    have h : u < 128 := by omega
    have hl' := hl
    rw [vput_small h] at hl ⊢
    simp only [varint_Put.l0]
    rw [if_neg (by omega), if_pos (by simp at hl; omega), show ((u : Int) % 256) = (u : Int) from by omega]
  | succ n ih =>
    intro u acc hu hl
    by_cases h : u < 128
    · refine Ev.step (f := fun _ => some (acc ++ vput u)) (fun k => ?_) (Ev.now _)
      rw [vput_small h] at hl ⊢
      simp only [varint_Put.l0]
      rw [if_neg (by omega), if_pos (by simp at hl; omega), show ((u : Int) % 256) = (u : Int) from by omega]
    · rw [vput_big h] at hl ⊢
      simp only [List.length_cons] at hl
      have h1 := ih (u / 128) (acc ++ [((u % 128 + 128 : Nat) : Int)]) (by omega) (by simp; omega)
      rw [List.append_assoc] at h1
      refine Ev.step (f := fun k => varint_Put.l0 k (acc ++ [((u % 128 + 128 : Nat) : Int)]) ((u / 128 : Nat) : Int)) (fun k => ?_) h1
      simp only [varint_Put.l0]
      rw [if_pos (by omega), if_pos (by omega), or128, show ((u : Int) / 128) = ((u / 128 : Nat) : Int) from by omega]
def u64N (n : Int) : Nat := (n % 18446744073709551616).toNat
theorem u64N_lt (n : Int) : u64N n < 18446744073709551616 := by unfold u64N; omega
theorem u64N_eq (n : Int) : IntKind.u64.wrap n = ((u64N n : Nat) : Int) := by rw [wu64]; unfold u64N; omega
theorem put_ev (n : Int) : Ev (fun k => varint_Put.f k n) (vput (u64N n)) := by
  unfold varint_Put.f
  rw [u64N_eq]
  exact put_l0 _ _ [] (Nat.le_refl _) (by have := vput_len10 (u64N_lt n); simp; omega)

def vgetA : List Int → Nat → Nat → Option (Nat × Nat)
  | [], _, _ => none
  | x :: l, i, u =>
    if i = 9 ∧ x > 1 then none
    else if x ≥ 128 then vgetA l (i + 1) (u + x.toNat % 128 * 2 ^ (7 * i))
    else if x = 0 ∧ i > 0 then none
    else some (u + x.toNat % 128 * 2 ^ (7 * i), i + 1)
def vres : Option (Nat × Nat) → Int × Int × Int
  | none => (0, 0, 5)
  | some (u, n) => (wrap64 (u : Int), (n : Int), 0)
def vget (l : List Int) : Int × Int × Int := vres (vgetA l 0 0)
theorem pow7 {i : Nat} (h : i ≤ 8) : (2 : Nat) ^ (7 * (i + 1)) = 128 * 2 ^ (7 * i) ∧ 2 ^ (7 * i) ≤ 72057594037927936 := by
  refine ⟨by rw [Nat.mul_add, Nat.pow_add]; omega, ?_⟩
  calc 2 ^ (7 * i) ≤ 2 ^ 56 := Nat.pow_le_pow_right (by decide) (by omega)
    _ = 72057594037927936 := by decide
theorem shl7 {i : Nat} (hi : i ≤ 9) {c : Nat} (hc : c * 2 ^ (7 * i) < 18446744073709551616) (y : Int) (hy : y = 7 * (i : Int)) : shl .u64 (c : Int) y = ((c * 2 ^ (7 * i) : Nat) : Int) := by
  unfold shl
  have h1 : min y.toNat IntKind.u64.bits = 7 * i := by
    show min y.toNat 64 = 7 * i
    omega
  rw [h1, wu64]
  have h2 : ((c : Int) * 2 ^ (7 * i)) = ((c * 2 ^ (7 * i) : Nat) : Int) := by simp
  rw [h2]
  omega
theorem get_bound {i u : Nat} {x : Int} (hi : i ≤ 9) (hu : u < 2 ^ (7 * i)) (h0 : 0 ≤ x) (h1 : x ≤ 255) (h9 : ¬ (i = 9 ∧ x > 1)) :
    u < 18446744073709551616 ∧ x.toNat % 128 * 2 ^ (7 * i) < 18446744073709551616 ∧ u + x.toNat % 128 * 2 ^ (7 * i) < 18446744073709551616 ∧ (x ≥ 128 → i + 1 ≤ 9 ∧ u + x.toNat % 128 * 2 ^ (7 * i) < 2 ^ (7 * (i + 1))) := by
  rcases Nat.lt_or_ge i 9 with hlt | hge
  · have hp := pow7 (i := i) (by omega)
    have hc : x.toNat % 128 ≤ 127 := by omega
    have hm : x.toNat % 128 * 2 ^ (7 * i) ≤ 127 * 2 ^ (7 * i) := Nat.mul_le_mul_right _ hc
    refine ⟨by omega, by omega, by omega, fun _ => ⟨by omega, by omega⟩⟩
  · have he : i = 9 := by omega
    subst he
    have hx : x ≤ 1 := by omega
    have hc : x.toNat % 128 ≤ 1 := by omega
    have hm : x.toNat % 128 * 2 ^ (7 * 9) ≤ 1 * 2 ^ (7 * 9) := Nat.mul_le_mul_right _ hc
    have hp : (2 : Nat) ^ (7 * 9) = 9223372036854775808 := by decide
    rw [hp] at hu hm ⊢
    refine ⟨by omega, by omega, by omega, fun h => absurd h (by omega)⟩
theorem get_l0 (l : List Int) (hl : ∀ x ∈ l, 0 ≤ x ∧ x ≤ 255) (hn : l.length ≤ 140737488355328) : ∀ (d i u : Nat), i + d = l.length → i ≤ 9 → u < 2 ^ (7 * i) →
    Ev (fun k => varint_Get.l0 k (u : Int) l (l.length : Int) (i : Int)) (vres (vgetA (l.drop i) i u)) := by
  intro d
  induction d with
  | zero =>
    intro i u hi _ _
    refine Ev.step (f := fun _ => some (0, 0, 5)) (fun k => ?_) ?_
    · simp only [varint_Get.l0]
      rw [if_neg (by omega)]
    · rw [List.drop_of_length_le (by omega)]
      exact Ev.now _
  | succ d ih =>
    intro i u hi hi9 hu
    have hlt : i < l.length := by omega
    have hm := hl l[i] (List.getElem_mem hlt)
    have hr : rd l (i : Int) = l[i] := by
      unfold rd
      rw [Int.toNat_natCast, List.getD_eq_getElem?_getD, List.getElem?_eq_getElem hlt]; rfl
    have h7 : wrap64 (7 * (i : Int)) = 7 * (i : Int) := w64 (by omega) (by omega)
    have hi1 : wrap64 ((i : Int) + 1) = ((i + 1 : Nat) : Int) := by rw [w64 (by omega) (by omega)]; omega
    have key : Ev (fun k => varint_Get.j1 k (u : Int) (i : Int) l[i] l (l.length : Int) (i : Int) (decide (i = 9 ∧ l[i] > 1))) (vres (vgetA (l.drop i) i u)) := by
      rw [List.drop_eq_getElem_cons hlt]
      simp only [vgetA]
      by_cases h9 : i = 9 ∧ l[i] > 1
      · rw [decide_eq_true h9, if_pos h9]
        refine Ev.step (f := fun _ => some (0, 0, 5)) (fun k => ?_) (Ev.now _)
        simp only [varint_Get.j1, if_true]
      · rw [decide_eq_false h9, if_neg h9]
        obtain ⟨b1, b2, b3, b4⟩ := get_bound hi9 hu hm.1 hm.2 h9
        have hc : IntKind.u64.wrap (Go.bits .and .u8 l[i] 127) = ((l[i].toNat % 128 : Nat) : Int) := by rw [and127_u8 hm.1 hm.2, wu64]; omega
        have ho : Go.bits .or .u64 (u : Int) (shl .u64 (IntKind.u64.wrap (Go.bits .and .u8 l[i] 127)) (wrap64 (7 * (i : Int)))) = ((u + l[i].toNat % 128 * 2 ^ (7 * i) : Nat) : Int) := by
          rw [hc, shl7 hi9 b2 _ h7, or_high (7 * i) hu b1 b2]
        by_cases hge : l[i] ≥ 128
        · rw [if_pos hge]
          have h1 := ih (i + 1) (u + l[i].toNat % 128 * 2 ^ (7 * i)) (by omega) (b4 hge).1 (b4 hge).2
          refine Ev.step (f := fun k => varint_Get.l0 k ((u + l[i].toNat % 128 * 2 ^ (7 * i) : Nat) : Int) l (l.length : Int) ((i + 1 : Nat) : Int)) (fun k => ?_) h1
          simp only [varint_Get.j1]
          rw [if_neg (by decide), ho, h7, if_pos (by omega), if_pos hge, hi1]
        · rw [if_neg hge]
          refine Ev.step (f := fun _ => some (if l[i] = 0 ∧ i > 0 then (0, 0, 5) else (wrap64 ((u + l[i].toNat % 128 * 2 ^ (7 * i) : Nat) : Int), ((i + 1 : Nat) : Int), 0))) (fun k => ?_) ?_
          · simp only [varint_Get.j1]
            rw [if_neg (by decide), ho, h7, if_pos (by omega), if_neg hge, hi1]
            by_cases hz : l[i] = 0
            · rw [if_pos hz]
              by_cases hp : i > 0
              · rw [if_pos (by omega), if_pos ⟨hz, hp⟩]
              · rw [if_neg (by omega), if_neg (fun h => hp h.2)]
            · rw [if_neg hz, if_neg (fun h => hz h.1)]
          · by_cases hz : l[i] = 0 ∧ i > 0
            · rw [if_pos hz, if_pos hz]; exact Ev.now _
            · rw [if_neg hz, if_neg hz]; exact Ev.now _
    refine Ev.step (f := fun k => varint_Get.j1 k (u : Int) (i : Int) l[i] l (l.length : Int) (i : Int) (decide (i = 9 ∧ l[i] > 1))) (fun k => ?_) key
    simp only [varint_Get.l0]
    rw [if_pos (by omega), if_pos (by omega), if_pos (by omega), hr]
    by_cases h9 : i = 9
    · rw [if_pos (by omega)]
      congr 1
      simp [h9]
    · rw [if_neg (by omega)]
      congr 1
      simp [h9]
theorem get_ev (l : List Int) (hl : ∀ x ∈ l, 0 ≤ x ∧ x ≤ 255) (hn : l.length ≤ 140737488355328) : Ev (fun k => varint_Get.f k l) (vget l) :=
  get_l0 l hl hn l.length 0 0 (by omega) (by decide) (by decide)
def zigN (n : Int) : Nat := if 0 ≤ n then (2 * n).toNat else (-2 * n - 1).toNat
theorem zigN_lt {n : Int} (h0 : -9223372036854775808 ≤ n) (h1 : n ≤ 9223372036854775807) : zigN n < 18446744073709551616 := by unfold zigN; split <;> omega
theorem zig_ev {n : Int} (h0 : -9223372036854775808 ≤ n) (h1 : n ≤ 9223372036854775807) : varint_Zig.f n = some (wrap64 ((zigN n : Nat) : Int)) := by
  unfold varint_Zig.f
  have e1 : IntKind.u64.wrap ((IntKind.u64.wrap n) * 2) = ((u64N (2 * n) : Nat) : Int) := by rw [wu64, wu64]; unfold u64N; omega
  rw [e1]
  by_cases h : 0 ≤ n
  · have e2 : IntKind.u64.wrap (n / 9223372036854775808) = ((0 : Nat) : Int) := by rw [wu64]; omega
    rw [e2, u64_xor_nat _ _ (u64N_lt _) (by decide), Nat.xor_zero]
    unfold zigN u64N
    rw [if_pos h]
    congr 3
    omega
  · have e2 : IntKind.u64.wrap (n / 9223372036854775808) = ((18446744073709551615 : Nat) : Int) := by rw [wu64]; omega
    rw [e2, u64_xor_nat _ _ (u64N_lt _) (by decide), not64 (u64N_lt _)]
    unfold zigN u64N
    rw [if_neg h]
    congr 3
    omega
theorem num5_ev (n : Int) : lysimeterlaw5_num.f n = some n := rfl
theorem alive5_ev : Ev (fun k => lysimeterlaw5_alive.f k) true := by
  unfold lysimeterlaw5_alive.f
  have h1 := get_ev [128, 0] (by decide) (by decide)
  rw [show vget [128, 0] = (0, 0, 5) from by decide +kernel] at h1
  have h2 := put_ev 300
  rw [show vput (u64N 300) = [172, 2] from by rw [show u64N 300 = 300 from by decide, vput_big (by decide), vput_small (by decide)]; rfl] at h2
  refine Ev.bind h1 (Ev.bind h2 (ev_if_pos (by decide +kernel) (ev_one_bind (zig_ev (n := -1) (by decide) (by decide)) (ev_if_pos (by decide +kernel) ?_))))
  exact Ev.now _
/-! ### zig, zag -/
theorem refzig_ev {n : Int} (h0 : -9223372036854775808 ≤ n) (h1 : n ≤ 9223372036854775807) : lysimeterref4_Zig.f n = some (wrap64 ((zigN n : Nat) : Int)) := by
  unfold lysimeterref4_Zig.f
  have e1 : IntKind.u64.wrap ((IntKind.u64.wrap n) * 2) = ((u64N (2 * n) : Nat) : Int) := by rw [wu64, wu64]; unfold u64N; omega
  rw [e1]
  by_cases h : n < 0
  · rw [if_pos h, not_u64 (u64N_lt _)]
    unfold zigN u64N
    rw [if_neg (by omega)]
    congr 3
    omega
  · rw [if_neg h]
    unfold zigN u64N
    rw [if_pos (by omega)]
    congr 3
    omega
def zagZ (n : Int) : Int := if u64N n % 2 = 0 then ((u64N n / 2 : Nat) : Int) else -1 - ((u64N n / 2 : Nat) : Int)
theorem zagZ_range (n : Int) : -9223372036854775808 ≤ zagZ n ∧ zagZ n ≤ 9223372036854775807 := by
  have := u64N_lt n
  unfold zagZ
  split <;> omega
theorem zag_ev (n : Int) : varint_Zag.f n = some (zagZ n) := by
  have hl := u64N_lt n
  have hm : n % 2 = ((u64N n % 2 : Nat) : Int) := by unfold u64N; omega
  unfold varint_Zag.f zagZ
  rw [u64N_eq, and1_i64, show (((u64N n : Nat) : Int) / 2) = ((u64N n / 2 : Nat) : Int) from by omega, w64 (x := ((u64N n / 2 : Nat) : Int)) (by omega) (by omega), hm]
  by_cases h : u64N n % 2 = 0
  · rw [if_pos h, h, show wrap64 (-((0 : Nat) : Int)) = 0 from by unfold wrap64; omega, xor0_i64 (by omega) (by omega)]
  · rw [if_neg h, show u64N n % 2 = 1 from by omega, show wrap64 (-((1 : Nat) : Int)) = -1 from by unfold wrap64; omega, xorm_i64 (by omega) (by omega)]
theorem u64N_wrap (u : Nat) (h : u < 18446744073709551616) : u64N (wrap64 (u : Int)) = u := by unfold u64N wrap64; omega
theorem zag_zig {n : Int} (h0 : -9223372036854775808 ≤ n) (h1 : n ≤ 9223372036854775807) : zagZ (wrap64 ((zigN n : Nat) : Int)) = n := by
  unfold zagZ
  rw [u64N_wrap _ (zigN_lt h0 h1)]
  unfold zigN
  split <;> split <;> omega
theorem zig_zag {n : Int} (h0 : -9223372036854775808 ≤ n) (h1 : n ≤ 9223372036854775807) : wrap64 ((zigN (zagZ n) : Nat) : Int) = n := by
  have hl := u64N_lt n
  have : zigN (zagZ n) = u64N n := by
    unfold zigN zagZ
    split <;> split <;> omega
  rw [this]
  unfold u64N wrap64
  omega
def vsigned (r : Int × Int × Int) : Int × Int × Int := if r.2.2 = 0 then (zagZ r.1, r.2.1, 0) else (0, 0, r.2.2)
theorem getsigned_ev (l : List Int) (hl : ∀ x ∈ l, 0 ≤ x ∧ x ≤ 255) (hn : l.length ≤ 140737488355328) : Ev (fun k => varint_GetSigned.f k l) (vsigned (vget l)) := by
  unfold varint_GetSigned.f
  refine Ev.bind (get_ev l hl hn) ?_
  unfold vsigned
  by_cases h : (vget l).2.2 = 0
  · simp only [h, if_true, zag_ev, Option.bind_some]
    exact Ev.now _
  · simp only [h, if_false]
    exact Ev.now _
theorem refput_l0 (n : Nat) : ∀ (u : Nat) (acc : List Int), u ≤ n → u < 18446744073709551616 → acc.length + (vput u).length < 140737488355328 → Ev (fun k => lysimeterref4_Put.l0 k (u : Int) acc) (acc ++ vput u) := by
  induction n with
  | zero =>
    intro u acc hu hu2 hl
    refine Ev.step (f := fun _ => some (acc ++ vput u)) (fun k => ?_) (Ev.now _)
    have h : u < 128 := by omega
    rw [vput_small h] at hl ⊢
    simp only [lysimeterref4_Put.l0]
    rw [if_neg (by omega), if_pos (by simp at hl; omega), show ((u : Int) % 256) = (u : Int) from by omega]
  | succ n ih =>
    intro u acc hu hu2 hl
    by_cases h : u < 128
    · refine Ev.step (f := fun _ => some (acc ++ vput u)) (fun k => ?_) (Ev.now _)
      rw [vput_small h] at hl ⊢
      simp only [lysimeterref4_Put.l0]
      rw [if_neg (by omega), if_pos (by simp at hl; omega), show ((u : Int) % 256) = (u : Int) from by omega]
    · rw [vput_big h] at hl ⊢
      simp only [List.length_cons] at hl
      have h1 := ih (u / 128) (acc ++ [((u % 128 + 128 : Nat) : Int)]) (by omega) (by omega) (by simp; omega)
      rw [List.append_assoc] at h1
      refine Ev.step (f := fun k => lysimeterref4_Put.l0 k ((u / 128 : Nat) : Int) (acc ++ [((u % 128 + 128 : Nat) : Int)])) (fun k => ?_) h1
      simp only [lysimeterref4_Put.l0]
      rw [if_pos (by omega), if_pos (by omega), and127_u64 hu2, or128, show ((u : Int) / 128) = ((u / 128 : Nat) : Int) from by omega, show u % 128 % 128 = u % 128 from by omega]
theorem refput_ev (n : Int) : Ev (fun k => lysimeterref4_Put.f k n) (vput (u64N n)) := by
  unfold lysimeterref4_Put.f
  rw [u64N_eq]
  exact refput_l0 _ _ [] (Nat.le_refl _) (u64N_lt n) (by have := vput_len10 (u64N_lt n); simp; omega)
theorem signed_ev {n : Int} (h0 : -9223372036854775808 ≤ n) (h1 : n ≤ 9223372036854775807) : Ev (fun k => varint_Signed.f k n) (vput (zigN n)) := by
  unfold varint_Signed.f
  have h := put_ev (wrap64 ((zigN n : Nat) : Int))
  rw [u64N_wrap _ (zigN_lt h0 h1)] at h
  exact ev_one_bind (zig_ev h0 h1) (Ev.bind h (Ev.now _))
theorem refsigned_ev {n : Int} (h0 : -9223372036854775808 ≤ n) (h1 : n ≤ 9223372036854775807) : Ev (fun k => lysimeterref4_Signed.f k n) (vput (zigN n)) := by
  unfold lysimeterref4_Signed.f
  have h := refput_ev (wrap64 ((zigN n : Nat) : Int))
  rw [u64N_wrap _ (zigN_lt h0 h1)] at h
  exact ev_one_bind (refzig_ev h0 h1) (Ev.bind h (Ev.now _))
/-! ### what was put is taken -/
theorem vgetA_vput (n : Nat) : ∀ (u i acc : Nat) (more : List Int), u ≤ n → u * 2 ^ (7 * i) < 18446744073709551616 → i ≤ 9 → (0 < u ∨ i = 0) → vgetA (vput u ++ more) i acc = some (acc + u * 2 ^ (7 * i), i + (vput u).length) := by
  have small : ∀ (u i acc : Nat) (more : List Int), u < 128 → u * 2 ^ (7 * i) < 18446744073709551616 → i ≤ 9 → (0 < u ∨ i = 0) → vgetA (vput u ++ more) i acc = some (acc + u * 2 ^ (7 * i), i + (vput u).length) := by
    intro u i acc more h hu hi hp
    rw [vput_small h]
    simp only [List.singleton_append, vgetA, List.length_singleton]
    have h9 : ¬ (i = 9 ∧ (u : Int) > 1) := by
      rintro ⟨rfl, h2⟩
      have hp2 : (2 : Nat) ^ (7 * 9) = 9223372036854775808 := by decide
      omega
    rw [if_neg h9, if_neg (by omega), if_neg (by omega), Int.toNat_natCast, Nat.mod_eq_of_lt h]
  induction n with
  | zero => intro u i acc more hu; exact small u i acc more (by omega)
  | succ n ih =>
    intro u i acc more hu hlt hi hp
    by_cases h : u < 128
    · exact small u i acc more h hlt hi hp
    · have h9 : i ≤ 8 := by
        rcases Nat.lt_or_ge i 9 with h9 | h9
        · omega
        · obtain rfl : i = 9 := by omega
          have hp2 : (2 : Nat) ^ (7 * 9) = 9223372036854775808 := by decide
          omega
      have hp7 := pow7 h9
      have e1 : u * 2 ^ (7 * i) = u / 128 * 2 ^ (7 * (i + 1)) + u % 128 * 2 ^ (7 * i) := by
        rw [hp7.1]
        have h1 := Nat.div_add_mod u 128
        calc u * 2 ^ (7 * i) = (128 * (u / 128) + u % 128) * 2 ^ (7 * i) := by rw [h1]
          _ = _ := by rw [Nat.add_mul, Nat.mul_comm 128 (u / 128), Nat.mul_assoc]
      rw [vput_big h]
      simp only [List.cons_append, vgetA, List.length_cons]
      rw [if_neg (by omega), if_pos (by omega), Int.toNat_natCast, show (u % 128 + 128) % 128 = u % 128 from by omega]
      rw [ih (u / 128) (i + 1) _ more (by omega) (by omega) (by omega) (.inl (by omega))]
      congr 2 <;> omega
theorem vget_vput {u : Nat} (h : u < 18446744073709551616) (more : List Int) : vget (vput u ++ more) = (wrap64 (u : Int), ((vput u).length : Int), 0) := by
  unfold vget
  rw [vgetA_vput u u 0 0 more (Nat.le_refl _) (by omega) (by decide) (.inr rfl)]
  simp [vres]
theorem VarintPuts : lysimeterlaw5_VarintPuts.Pure := by
  intro n l w hm hn hw
  obtain ⟨h0, h1⟩ := wf_i64 w
  have hl : ∀ x ∈ l, 0 ≤ x ∧ x ≤ 255 := fun x hx => wf_u8 (hw x hx)
  refine Ev.rounds (r := true) (g := fun k => lysimeterlaw5_VarintPuts.f k n l) ?_
  unfold lysimeterlaw5_VarintPuts.f
  refine Ev.bind alive5_ev (ev_if_pos rfl ?_)
  by_cases hb : (l.length : Int) > 1000
  · rw [decide_eq_true hb]
    refine Ev.step (f := fun _ => some true) (fun k => ?_) (Ev.now _)
    simp only [lysimeterlaw5_VarintPuts.j0, if_true]
  · rw [decide_eq_false hb]
    have l1 := vput_len10 (u64N_lt n)
    have l2 := vput_len10 (zigN_lt h0 h1)
    have r1 : ∀ x ∈ vput (u64N n) ++ l, 0 ≤ x ∧ x ≤ 255 := fun x hx => (List.mem_append.1 hx).elim (vput_range _ _ (Nat.le_refl _) x) (hl x)
    have r2 : ∀ x ∈ vput (zigN n) ++ l, 0 ≤ x ∧ x ≤ 255 := fun x hx => (List.mem_append.1 hx).elim (vput_range _ _ (Nat.le_refl _) x) (hl x)
    have g1 := get_ev _ r1 (by simp; omega)
    rw [vget_vput (u64N_lt n), show wrap64 ((u64N n : Nat) : Int) = n from by unfold u64N wrap64; omega] at g1
    have g2 := getsigned_ev _ r2 (by simp; omega)
    rw [vget_vput (zigN_lt h0 h1), show vsigned (wrap64 ((zigN n : Nat) : Int), ((vput (zigN n)).length : Int), 0) = (n, ((vput (zigN n)).length : Int), 0) from by unfold vsigned; rw [if_pos rfl]; simp only [zag_zig h0 h1]] at g2
    refine Ev.step (g := fun k => lysimeterlaw5_VarintPuts.j0 k n l true false) (f := fun k => (varint_Put.f k n).bind fun t138 => ((varint_Signed.f k n).bind fun t141 => (if ([] : List Int).length + t138.length < 140737488355328 then ((some (([] : List Int) ++ t138 : List Int)).bind fun y144 => (if y144.length + l.length < 140737488355328 then ((varint_Get.f k (y144 ++ l)).bind fun bt150 => (if ([] : List Int).length + t141.length < 140737488355328 then ((some (([] : List Int) ++ t141 : List Int)).bind fun y153 => (if y153.length + l.length < 140737488355328 then ((varint_GetSigned.f k (y153 ++ l)).bind fun bt159 => ((lysimeterref4_Put.f k n).bind fun t162 => (if (strOfNums t138).toList = (strOfNums t162).toList then ((lysimeterref4_Signed.f k n).bind fun t165 => (if (strOfNums t141).toList = (strOfNums t165).toList then ((lysimeterlaw5_num.f bt150.2.2).bind fun t168 => ((lysimeterlaw5_num.f bt159.2.2).bind fun t169 => (if (wrap64 (t168 + t169)) = 0 then (if bt150.1 = n then (if bt159.1 = n then (if bt150.2.1 = (t138.length : Int) then (some (bt159.2.1 == (t141.length : Int))) else (some false)) else (some false)) else (some false)) else (some false)))) else (some false))) else (some false)))) else (none))) else (none))) else (none))) else (none)))) (fun k => ?_) ?_
    · simp only [lysimeterlaw5_VarintPuts.j0]
      rw [if_neg (by decide)]
    · refine Ev.bind (put_ev n) (Ev.bind (signed_ev h0 h1) (ev_if_pos (by simp; omega) (ev_some_bind (ev_if_pos (by simp; omega) (Ev.bind (a := (n, ((vput (u64N n)).length : Int), 0)) (by rw [List.nil_append]; exact g1) (ev_if_pos (by simp; omega) (ev_some_bind (ev_if_pos (by simp; omega) (Ev.bind (a := (n, ((vput (zigN n)).length : Int), 0)) (by rw [List.nil_append]; exact g2) (Ev.bind (refput_ev n) (ev_if_pos rfl (Ev.bind (refsigned_ev h0 h1) (ev_if_pos rfl (ev_one_bind (num5_ev _) (ev_one_bind (num5_ev _) (ev_if_pos (show wrap64 (0 + 0) = 0 from by decide +kernel) (ev_if_pos rfl (ev_if_pos rfl (ev_if_pos rfl ?_)))))))))))))))))))
      rw [beq_self_eq_true]
      exact Ev.now _

end Go.Proofs.Ytjilnpbgclnecaa.Pure
