/- What all bytes are as a manifest, or that they are none, is what the document's reference tells (statement ManifestReads); no condition. -/
import Derived.Test.YtjilnpbgclnecacPManifestReadsx13
import Derived.Test.YtjilnpbgclnecacXPure
set_option linter.unusedVariables false
set_option linter.unusedSimpArgs false
namespace Go.Proofs.Ytjilnpbgclnecac.Pure
open Go Go.RowKit Go.Proofs.Ytjilnpbgclnecac.PManifestReads Go.Proofs.Ytjilnpbgclnecac.XP Go.Proofs.YtjilnpbgclnecacW.PrintWords Go.Proofs.YtjilnpbgclnecacW.PrintLast Go.Proofs.YtjilnpbgclnecacW.PrintMore

/-! ### two rows that are one -/
theorem rd_nat {l : List Int} {i : Nat} (h : i < l.length) : rd l (i : Int) = l[i] := by
  unfold rd
  rw [Int.toNat_natCast, List.getD_eq_getElem?_getD, List.getElem?_eq_getElem h]; rfl
theorem wi1 {i n : Nat} (h : i < n) (hn : n ≤ 140737488355328) : wrap64 ((i : Int) + 1) = ((i + 1 : Nat) : Int) := by rw [w64 (by omega) (by omega)]; omega
theorem same_l0 (a b : List Int) (hab : a.length = b.length) (hn : a.length ≤ 140737488355328) : ∀ (d i : Nat), i + d = a.length → Ev (fun k => lysimeterlaw6_SameInts.l0 k a b (i : Int)) (decide (a.drop i = b.drop i)) := by
  intro d
  induction d with
  | zero =>
    intro i hi
    rw [List.drop_of_length_le (by omega), List.drop_of_length_le (by omega)]
    refine Ev.step (f := fun _ => some true) (fun k => ?_) (ev_eq (Ev.now _) (by simp))
    simp only [lysimeterlaw6_SameInts.l0]
    rw [if_neg (by omega)]
  | succ d ih =>
    intro i hi
    have hlt : i < a.length := by omega
    have hlt' : i < b.length := by omega
    rw [List.drop_eq_getElem_cons hlt, List.drop_eq_getElem_cons hlt']
    by_cases c1 : a[i] = b[i]
    · refine Ev.step (f := fun k => lysimeterlaw6_SameInts.l0 k a b ((i + 1 : Nat) : Int)) (fun k => ?_) (ev_eq (ih (i + 1) (by omega)) (by rw [decide_eq_decide, List.cons.injEq]; exact ⟨fun e => ⟨c1, e⟩, fun e => e.2⟩))
      simp only [lysimeterlaw6_SameInts.l0]
      rw [if_pos (by omega), if_pos (by omega), if_pos (by omega), rd_nat hlt, rd_nat hlt', if_pos c1, wi1 hlt hn]
    · refine Ev.step (f := fun _ => some false) (fun k => ?_) (ev_eq (Ev.now _) (by rw [decide_eq_false]; intro e; exact c1 (List.cons.inj e).1))
      simp only [lysimeterlaw6_SameInts.l0]
      rw [if_pos (by omega), if_pos (by omega), if_pos (by omega), rd_nat hlt, rd_nat hlt', if_neg c1]
theorem same_ev {a b : List Int} (hn : a.length ≤ 140737488355328) : Ev (fun k => lysimeterlaw6_SameInts.f k a b) (decide (a = b)) := by
  unfold lysimeterlaw6_SameInts.f
  by_cases h : a.length = b.length
  · exact ev_if_pos (by omega) (same_l0 a b h hn a.length 0 (by omega))
  · exact ev_if_neg (by omega) (ev_eq (Ev.now _) (by rw [decide_eq_false]; intro e; exact h (congrArg List.length e)))
theorem same_self {a : List Int} (hn : a.length ≤ 140737488355328) : Ev (fun k => lysimeterlaw6_SameInts.f k a a) true := ev_eq (same_ev hn) (by simp)
/-! ### numbers in few bytes -/
def vput (u : Nat) : List Int := if u < 128 then [(u : Int)] else ((u % 128 + 128 : Nat) : Int) :: vput (u / 128)
termination_by u
decreasing_by omega
theorem vput_small {u : Nat} (h : u < 128) : vput u = [(u : Int)] := by rw [vput, if_pos h]
theorem vput_big {u : Nat} (h : ¬ u < 128) : vput u = ((u % 128 + 128 : Nat) : Int) :: vput (u / 128) := by rw [vput, if_neg h]
theorem vput_len (n : Nat) : ∀ u, u < 2 ^ (7 * n) → 0 < n → 1 ≤ (vput u).length ∧ (vput u).length ≤ n := by
  induction n with
  | zero => intro u _ h; exact absurd h (by omega)
  | succ n ih =>
    intro u hu _
    by_cases h : u < 128
    · rw [vput_small h]; simp
    · rw [vput_big h]
      have hp : (2 : Nat) ^ (7 * (n + 1)) = 128 * 2 ^ (7 * n) := by rw [Nat.mul_add, Nat.pow_add]; omega
      have hn : 0 < n := by
        rcases Nat.eq_zero_or_pos n with h0 | h0
        · subst h0; simp at hp; omega
        · exact h0
      have := ih (u / 128) (by omega) hn
      simp only [List.length_cons]
      omega
theorem vput_len10 {u : Nat} (h : u < 18446744073709551616) : 1 ≤ (vput u).length ∧ (vput u).length ≤ 10 := vput_len 10 u (by omega) (by decide)
theorem vput_range (n : Nat) : ∀ u, u ≤ n → ∀ x ∈ vput u, 0 ≤ x ∧ x ≤ 255 := by
  induction n with
  | zero =>
    intro u hu x hx
    rw [vput_small (by omega)] at hx
    simp at hx
    omega
  | succ n ih =>
    intro u hu x hx
    by_cases h : u < 128
    · rw [vput_small h] at hx; simp at hx; omega
    · rw [vput_big h] at hx
      rcases List.mem_cons.1 hx with rfl | hx
      · omega
      · exact ih (u / 128) (by omega) x hx
theorem put_l0 (n : Nat) : ∀ (u : Nat) (acc : List Int), u ≤ n → acc.length + (vput u).length < 140737488355328 → Ev (fun k => varint_Put.l0 k acc (u : Int)) (acc ++ vput u) := by
  induction n with
  | zero =>
    intro u acc hu hl
    refine Ev.step (f := fun _ => some (acc ++ vput u)) (fun k => ?_) (Ev.now _)
    have h : u < 128 := by omega
    have hl' := hl
    rw [vput_small h] at hl ⊢
    simp only [varint_Put.l0]
    rw [if_neg (by omega), if_pos (by simp at hl; omega), show ((u : Int) % 256) = (u : Int) from by omega]
  | succ n ih =>
    intro u acc hu hl
    by_cases h : u < 128
    · refine Ev.step (f := fun _ => some (acc ++ vput u)) (fun k => ?_) (Ev.now _)
      rw [vput_small h] at hl ⊢
      simp only [varint_Put.l0]
      rw [if_neg (by omega), if_pos (by simp at hl; omega), show ((u : Int) % 256) = (u : Int) from by omega]
    · rw [vput_big h] at hl ⊢
      simp only [List.length_cons] at hl
      have h1 := ih (u / 128) (acc ++ [((u % 128 + 128 : Nat) : Int)]) (by omega) (by simp; omega)
      rw [List.append_assoc] at h1
      refine Ev.step (f := fun k => varint_Put.l0 k (acc ++ [((u % 128 + 128 : Nat) : Int)]) ((u / 128 : Nat) : Int)) (fun k => ?_) h1
      simp only [varint_Put.l0]
      rw [if_pos (by omega), if_pos (by omega), or128, show ((u : Int) / 128) = ((u / 128 : Nat) : Int) from by omega]
def u64N (n : Int) : Nat := (n % 18446744073709551616).toNat
theorem u64N_lt (n : Int) : u64N n < 18446744073709551616 := by unfold u64N; omega
theorem u64N_eq (n : Int) : IntKind.u64.wrap n = ((u64N n : Nat) : Int) := by rw [wu64]; unfold u64N; omega
theorem put_ev (n : Int) : Ev (fun k => varint_Put.f k n) (vput (u64N n)) := by
  unfold varint_Put.f
  rw [u64N_eq]
  exact put_l0 _ _ [] (Nat.le_refl _) (by have := vput_len10 (u64N_lt n); simp; omega)
/-! ### numbers out of few bytes -/
def vgetA : List Int → Nat → Nat → Option (Nat × Nat)
  | [], _, _ => none
  | x :: l, i, u =>
    if i = 9 ∧ x > 1 then none
    else if x ≥ 128 then vgetA l (i + 1) (u + x.toNat % 128 * 2 ^ (7 * i))
    else if x = 0 ∧ i > 0 then none
    else some (u + x.toNat % 128 * 2 ^ (7 * i), i + 1)
def vres : Option (Nat × Nat) → Int × Int × Int
  | none => (0, 0, 5)
  | some (u, n) => (wrap64 (u : Int), (n : Int), 0)
def vget (l : List Int) : Int × Int × Int := vres (vgetA l 0 0)
theorem pow7 {i : Nat} (h : i ≤ 8) : (2 : Nat) ^ (7 * (i + 1)) = 128 * 2 ^ (7 * i) ∧ 2 ^ (7 * i) ≤ 72057594037927936 := by
  refine ⟨by rw [Nat.mul_add, Nat.pow_add]; omega, ?_⟩
  calc 2 ^ (7 * i) ≤ 2 ^ 56 := Nat.pow_le_pow_right (by decide) (by omega)
    _ = 72057594037927936 := by decide
theorem shl7 {i : Nat} (hi : i ≤ 9) {c : Nat} (hc : c * 2 ^ (7 * i) < 18446744073709551616) (y : Int) (hy : y = 7 * (i : Int)) : shl .u64 (c : Int) y = ((c * 2 ^ (7 * i) : Nat) : Int) := by
  unfold shl
  have h1 : min y.toNat IntKind.u64.bits = 7 * i := by
    show min y.toNat 64 = 7 * i
    omega
  rw [h1, wu64]
  have h2 : ((c : Int) * 2 ^ (7 * i)) = ((c * 2 ^ (7 * i) : Nat) : Int) := by simp
  rw [h2]
  omega
theorem get_bound {i u : Nat} {x : Int} (hi : i ≤ 9) (hu : u < 2 ^ (7 * i)) (h0 : 0 ≤ x) (h1 : x ≤ 255) (h9 : ¬ (i = 9 ∧ x > 1)) :
    u < 18446744073709551616 ∧ x.toNat % 128 * 2 ^ (7 * i) < 18446744073709551616 ∧ u + x.toNat % 128 * 2 ^ (7 * i) < 18446744073709551616 ∧ (x ≥ 128 → i + 1 ≤ 9 ∧ u + x.toNat % 128 * 2 ^ (7 * i) < 2 ^ (7 * (i + 1))) := by
  rcases Nat.lt_or_ge i 9 with hlt | hge
  · have hp := pow7 (i := i) (by omega)
    have hc : x.toNat % 128 ≤ 127 := by omega
    have hm : x.toNat % 128 * 2 ^ (7 * i) ≤ 127 * 2 ^ (7 * i) := Nat.mul_le_mul_right _ hc
    refine ⟨by omega, by omega, by omega, fun _ => ⟨by omega, by omega⟩⟩
  · have he : i = 9 := by omega
    subst he
    have hx : x ≤ 1 := by omega
    have hc : x.toNat % 128 ≤ 1 := by omega
    have hm : x.toNat % 128 * 2 ^ (7 * 9) ≤ 1 * 2 ^ (7 * 9) := Nat.mul_le_mul_right _ hc
    have hp : (2 : Nat) ^ (7 * 9) = 9223372036854775808 := by decide
    rw [hp] at hu hm ⊢
    refine ⟨by omega, by omega, by omega, fun h => absurd h (by omega)⟩
theorem get_l0 (l : List Int) (hl : ∀ x ∈ l, 0 ≤ x ∧ x ≤ 255) (hn : l.length ≤ 140737488355328) : ∀ (d i u : Nat), i + d = l.length → i ≤ 9 → u < 2 ^ (7 * i) →
    Ev (fun k => varint_Get.l0 k (u : Int) l (l.length : Int) (i : Int)) (vres (vgetA (l.drop i) i u)) := by
  intro d
  induction d with
  | zero =>
    intro i u hi _ _
    refine Ev.step (f := fun _ => some (0, 0, 5)) (fun k => ?_) ?_
    · simp only [varint_Get.l0]
      rw [if_neg (by omega)]
    · rw [List.drop_of_length_le (by omega)]
      exact Ev.now _
  | succ d ih =>
    intro i u hi hi9 hu
    have hlt : i < l.length := by omega
    have hm := hl l[i] (List.getElem_mem hlt)
    have hr : rd l (i : Int) = l[i] := by
      unfold rd
      rw [Int.toNat_natCast, List.getD_eq_getElem?_getD, List.getElem?_eq_getElem hlt]; rfl
    have h7 : wrap64 (7 * (i : Int)) = 7 * (i : Int) := w64 (by omega) (by omega)
    have hi1 : wrap64 ((i : Int) + 1) = ((i + 1 : Nat) : Int) := by rw [w64 (by omega) (by omega)]; omega
    have key : Ev (fun k => varint_Get.j1 k (u : Int) (i : Int) l[i] l (l.length : Int) (i : Int) (decide (i = 9 ∧ l[i] > 1))) (vres (vgetA (l.drop i) i u)) := by
      rw [List.drop_eq_getElem_cons hlt]
      simp only [vgetA]
      by_cases h9 : i = 9 ∧ l[i] > 1
      · rw [decide_eq_true h9, if_pos h9]
        refine Ev.step (f := fun _ => some (0, 0, 5)) (fun k => ?_) (Ev.now _)
        simp only [varint_Get.j1, if_true]
      · rw [decide_eq_false h9, if_neg h9]
        obtain ⟨b1, b2, b3, b4⟩ := get_bound hi9 hu hm.1 hm.2 h9
        have hc : IntKind.u64.wrap (Go.bits .and .u8 l[i] 127) = ((l[i].toNat % 128 : Nat) : Int) := by rw [and127_u8 hm.1 hm.2, wu64]; omega
        have ho : Go.bits .or .u64 (u : Int) (shl .u64 (IntKind.u64.wrap (Go.bits .and .u8 l[i] 127)) (wrap64 (7 * (i : Int)))) = ((u + l[i].toNat % 128 * 2 ^ (7 * i) : Nat) : Int) := by
          rw [hc, shl7 hi9 b2 _ h7, or_high (7 * i) hu b1 b2]
        by_cases hge : l[i] ≥ 128
        · rw [if_pos hge]
          have h1 := ih (i + 1) (u + l[i].toNat % 128 * 2 ^ (7 * i)) (by omega) (b4 hge).1 (b4 hge).2
          refine Ev.step (f := fun k => varint_Get.l0 k ((u + l[i].toNat % 128 * 2 ^ (7 * i) : Nat) : Int) l (l.length : Int) ((i + 1 : Nat) : Int)) (fun k => ?_) h1
          simp only [varint_Get.j1]
          rw [if_neg (by decide), ho, h7, if_pos (by omega), if_pos hge, hi1]
        · rw [if_neg hge]
          refine Ev.step (f := fun _ => some (if l[i] = 0 ∧ i > 0 then (0, 0, 5) else (wrap64 ((u + l[i].toNat % 128 * 2 ^ (7 * i) : Nat) : Int), ((i + 1 : Nat) : Int), 0))) (fun k => ?_) ?_
          · simp only [varint_Get.j1]
            rw [if_neg (by decide), ho, h7, if_pos (by omega), if_neg hge, hi1]
            by_cases hz : l[i] = 0
            · rw [if_pos hz]
              by_cases hp : i > 0
              · rw [if_pos (by omega), if_pos ⟨hz, hp⟩]
              · rw [if_neg (by omega), if_neg (fun h => hp h.2)]
            · rw [if_neg hz, if_neg (fun h => hz h.1)]
          · by_cases hz : l[i] = 0 ∧ i > 0
            · rw [if_pos hz, if_pos hz]; exact Ev.now _
            · rw [if_neg hz, if_neg hz]; exact Ev.now _
    refine Ev.step (f := fun k => varint_Get.j1 k (u : Int) (i : Int) l[i] l (l.length : Int) (i : Int) (decide (i = 9 ∧ l[i] > 1))) (fun k => ?_) key
    simp only [varint_Get.l0]
    rw [if_pos (by omega), if_pos (by omega), if_pos (by omega), hr]
    by_cases h9 : i = 9
    · rw [if_pos (by omega)]
      congr 1
      simp [h9]
    · rw [if_neg (by omega)]
      congr 1
      simp [h9]
theorem get_ev (l : List Int) (hl : ∀ x ∈ l, 0 ≤ x ∧ x ≤ 255) (hn : l.length ≤ 140737488355328) : Ev (fun k => varint_Get.f k l) (vget l) :=
  get_l0 l hl hn l.length 0 0 (by omega) (by decide) (by decide)
def zigN (n : Int) : Nat := if 0 ≤ n then (2 * n).toNat else (-2 * n - 1).toNat
theorem zigN_lt {n : Int} (h0 : -9223372036854775808 ≤ n) (h1 : n ≤ 9223372036854775807) : zigN n < 18446744073709551616 := by unfold zigN; split <;> omega
theorem zig_ev {n : Int} (h0 : -9223372036854775808 ≤ n) (h1 : n ≤ 9223372036854775807) : varint_Zig.f n = some (wrap64 ((zigN n : Nat) : Int)) := by
  unfold varint_Zig.f
  have e1 : IntKind.u64.wrap ((IntKind.u64.wrap n) * 2) = ((u64N (2 * n) : Nat) : Int) := by rw [wu64, wu64]; unfold u64N; omega
  rw [e1]
  by_cases h : 0 ≤ n
  · have e2 : IntKind.u64.wrap (n / 9223372036854775808) = ((0 : Nat) : Int) := by rw [wu64]; omega
    rw [e2, u64_xor_nat _ _ (u64N_lt _) (by decide), Nat.xor_zero]
    unfold zigN u64N
    rw [if_pos h]
    congr 3
    omega
  · have e2 : IntKind.u64.wrap (n / 9223372036854775808) = ((18446744073709551615 : Nat) : Int) := by rw [wu64]; omega
    rw [e2, u64_xor_nat _ _ (u64N_lt _) (by decide), not64 (u64N_lt _)]
    unfold zigN u64N
    rw [if_neg h]
    congr 3
    omega
/-! ### zig, zag -/
theorem refzig_ev {n : Int} (h0 : -9223372036854775808 ≤ n) (h1 : n ≤ 9223372036854775807) : lysimeterref4_Zig.f n = some (wrap64 ((zigN n : Nat) : Int)) := by
  unfold lysimeterref4_Zig.f
  have e1 : IntKind.u64.wrap ((IntKind.u64.wrap n) * 2) = ((u64N (2 * n) : Nat) : Int) := by rw [wu64, wu64]; unfold u64N; omega
  rw [e1]
  by_cases h : n < 0
  · rw [if_pos h, not_u64 (u64N_lt _)]
    unfold zigN u64N
    rw [if_neg (by omega)]
    congr 3
    omega
  · rw [if_neg h]
    unfold zigN u64N
    rw [if_pos (by omega)]
    congr 3
    omega
def zagZ (n : Int) : Int := if u64N n % 2 = 0 then ((u64N n / 2 : Nat) : Int) else -1 - ((u64N n / 2 : Nat) : Int)
theorem zagZ_range (n : Int) : -9223372036854775808 ≤ zagZ n ∧ zagZ n ≤ 9223372036854775807 := by
  have := u64N_lt n
  unfold zagZ
  split <;> omega
theorem zag_ev (n : Int) : varint_Zag.f n = some (zagZ n) := by
  have hl := u64N_lt n
  have hm : n % 2 = ((u64N n % 2 : Nat) : Int) := by unfold u64N; omega
  unfold varint_Zag.f zagZ
  rw [u64N_eq, and1_i64, show (((u64N n : Nat) : Int) / 2) = ((u64N n / 2 : Nat) : Int) from by omega, w64 (x := ((u64N n / 2 : Nat) : Int)) (by omega) (by omega), hm]
  by_cases h : u64N n % 2 = 0
  · rw [if_pos h, h, show wrap64 (-((0 : Nat) : Int)) = 0 from by unfold wrap64; omega, xor0_i64 (by omega) (by omega)]
  · rw [if_neg h, show u64N n % 2 = 1 from by omega, show wrap64 (-((1 : Nat) : Int)) = -1 from by unfold wrap64; omega, xorm_i64 (by omega) (by omega)]
theorem u64N_wrap (u : Nat) (h : u < 18446744073709551616) : u64N (wrap64 (u : Int)) = u := by unfold u64N wrap64; omega
theorem zag_zig {n : Int} (h0 : -9223372036854775808 ≤ n) (h1 : n ≤ 9223372036854775807) : zagZ (wrap64 ((zigN n : Nat) : Int)) = n := by
  unfold zagZ
  rw [u64N_wrap _ (zigN_lt h0 h1)]
  unfold zigN
  split <;> split <;> omega
theorem zig_zag {n : Int} (h0 : -9223372036854775808 ≤ n) (h1 : n ≤ 9223372036854775807) : wrap64 ((zigN (zagZ n) : Nat) : Int) = n := by
  have hl := u64N_lt n
  have : zigN (zagZ n) = u64N n := by
    unfold zigN zagZ
    split <;> split <;> omega
  rw [this]
  unfold u64N wrap64
  omega
def vsigned (r : Int × Int × Int) : Int × Int × Int := if r.2.2 = 0 then (zagZ r.1, r.2.1, 0) else (0, 0, r.2.2)
theorem getsigned_ev (l : List Int) (hl : ∀ x ∈ l, 0 ≤ x ∧ x ≤ 255) (hn : l.length ≤ 140737488355328) : Ev (fun k => varint_GetSigned.f k l) (vsigned (vget l)) := by
  unfold varint_GetSigned.f
  refine Ev.bind (get_ev l hl hn) ?_
  unfold vsigned
  by_cases h : (vget l).2.2 = 0
  · simp only [h, if_true, zag_ev, Option.bind_some]
    exact Ev.now _
  · simp only [h, if_false]
    exact Ev.now _
theorem refput_l0 (n : Nat) : ∀ (u : Nat) (acc : List Int), u ≤ n → u < 18446744073709551616 → acc.length + (vput u).length < 140737488355328 → Ev (fun k => lysimeterref4_Put.l0 k (u : Int) acc) (acc ++ vput u) := by
  induction n with
  | zero =>
    intro u acc hu hu2 hl
    refine Ev.step (f := fun _ => some (acc ++ vput u)) (fun k => ?_) (Ev.now _)
    have h : u < 128 := by omega
    rw [vput_small h] at hl ⊢
    simp only [lysimeterref4_Put.l0]
    rw [if_neg (by omega), if_pos (by simp at hl; omega), show ((u : Int) % 256) = (u : Int) from by omega]
  | succ n ih =>
    intro u acc hu hu2 hl
    by_cases h : u < 128
    · refine Ev.step (f := fun _ => some (acc ++ vput u)) (fun k => ?_) (Ev.now _)
      rw [vput_small h] at hl ⊢
      simp only [lysimeterref4_Put.l0]
      rw [if_neg (by omega), if_pos (by simp at hl; omega), show ((u : Int) % 256) = (u : Int) from by omega]
    · rw [vput_big h] at hl ⊢
      simp only [List.length_cons] at hl
      have h1 := ih (u / 128) (acc ++ [((u % 128 + 128 : Nat) : Int)]) (by omega) (by omega) (by simp; omega)
      rw [List.append_assoc] at h1
      refine Ev.step (f := fun k => lysimeterref4_Put.l0 k ((u / 128 : Nat) : Int) (acc ++ [((u % 128 + 128 : Nat) : Int)])) (fun k => ?_) h1
      simp only [lysimeterref4_Put.l0]
      rw [if_pos (by omega), if_pos (by omega), and127_u64 hu2, or128, show ((u : Int) / 128) = ((u / 128 : Nat) : Int) from by omega, show u % 128 % 128 = u % 128 from by omega]
theorem refput_ev (n : Int) : Ev (fun k => lysimeterref4_Put.f k n) (vput (u64N n)) := by
  unfold lysimeterref4_Put.f
  rw [u64N_eq]
  exact refput_l0 _ _ [] (Nat.le_refl _) (u64N_lt n) (by have := vput_len10 (u64N_lt n); simp; omega)
theorem refzag_ev (n : Int) : lysimeterref4_Zag.f n = some (zagZ n) := by
  have hl := u64N_lt n
  unfold lysimeterref4_Zag.f zagZ
  rw [u64N_eq, and1_u64 hl, show (((u64N n : Nat) : Int) / 2) = ((u64N n / 2 : Nat) : Int) from by omega]
  by_cases h : u64N n % 2 = 0
  · rw [if_neg (by omega), if_pos h, w64 (by omega) (by omega)]
  · rw [if_pos (by omega), if_neg h, not_u64 (by omega)]
    congr 1
    unfold wrap64
    omega
/-! ### the reference's numbers -/
theorem refget_l0 (l : List Int) (hl : ∀ x ∈ l, 0 ≤ x ∧ x ≤ 255) (hn : l.length ≤ 140737488355328) : ∀ (d i u : Nat), i + d = l.length → i ≤ 9 → u < 2 ^ (7 * i) →
    Ev (fun k => lysimeterref4_Get.l0 k l (u : Int) (i : Int)) (vres (vgetA (l.drop i) i u)) := by
  intro d
  induction d with
  | zero =>
    intro i u hi _ _
    refine Ev.step (f := fun k => lysimeterref4_Get.j1 k l (u : Int) (i : Int) false) (fun k => ?_) (Ev.step (f := fun _ => some (0, 0, 5)) (fun k => ?_) ?_)
    · simp only [lysimeterref4_Get.l0]
      rw [if_neg (by omega)]
    · simp only [lysimeterref4_Get.j1]
      rw [if_neg (by decide)]
    · rw [List.drop_of_length_le (by omega)]
      exact Ev.now _
  | succ d ih =>
    intro i u hi hi9 hu
    have hlt : i < l.length := by omega
    have hm := hl l[i] (List.getElem_mem hlt)
    have hr : rd l (i : Int) = l[i] := by
      unfold rd
      rw [Int.toNat_natCast, List.getD_eq_getElem?_getD, List.getElem?_eq_getElem hlt]; rfl
    have h7 : IntKind.u64.wrap (wrap64 (7 * (i : Int))) = 7 * (i : Int) := by rw [w64 (by omega) (by omega), wu64]; omega
    have hi1 : wrap64 ((i : Int) + 1) = ((i + 1 : Nat) : Int) := by rw [w64 (by omega) (by omega)]; omega
    have hc : IntKind.u64.wrap (Go.bits .and .u8 l[i] 127) = ((l[i].toNat % 128 : Nat) : Int) := by rw [and127_u8 hm.1 hm.2, wu64]; omega
    have key : Ev (fun k => lysimeterref4_Get.j2 k l (u : Int) (i : Int) ((l[i].toNat % 128 : Nat) : Int) (decide (i = 9 ∧ l[i].toNat % 128 > 1))) (vres (vgetA (l.drop i) i u)) := by
      rw [List.drop_eq_getElem_cons hlt]
      simp only [vgetA]
      by_cases h9 : i = 9 ∧ l[i].toNat % 128 > 1
      · rw [decide_eq_true h9, if_pos ⟨h9.1, by omega⟩]
        refine Ev.step (f := fun _ => some (0, 0, 5)) (fun k => ?_) (Ev.now _)
        simp only [lysimeterref4_Get.j2, if_true]
      · rw [decide_eq_false h9]
        by_cases h9' : i = 9 ∧ l[i] > 1
        · -- a byte from 128 on, its seven bits 0 or 1: the next round ends
          rw [if_pos h9']
          have hb : l[i] ≥ 128 := by omega
          have b2 : l[i].toNat % 128 * 2 ^ (7 * i) < 18446744073709551616 := by
            obtain ⟨rfl, _⟩ := h9'
            have hm1 : l[9].toNat % 128 * 2 ^ (7 * 9) ≤ 1 * 2 ^ (7 * 9) := Nat.mul_le_mul_right _ (by omega)
            have hp : (2 : Nat) ^ (7 * 9) = 9223372036854775808 := by decide
            omega
          have b1 : u < 18446744073709551616 := by
            obtain ⟨rfl, _⟩ := h9'
            have hp : (2 : Nat) ^ (7 * 9) = 9223372036854775808 := by decide
            omega
          have ho : Go.bits .or .u64 (u : Int) (shl .u64 ((l[i].toNat % 128 : Nat) : Int) (7 * (i : Int))) = ((u + l[i].toNat % 128 * 2 ^ (7 * i) : Nat) : Int) := by
            rw [shl7 hi9 b2 _ rfl, or_high (7 * i) hu b1 b2]
          refine Ev.step (f := fun k => lysimeterref4_Get.l0 k l ((u + l[i].toNat % 128 * 2 ^ (7 * i) : Nat) : Int) ((i + 1 : Nat) : Int)) (fun k => ?_) ?_
          · simp only [lysimeterref4_Get.j2]
            rw [if_neg (by decide), h7, if_pos (by omega), if_pos (by omega), if_pos (by omega), hr, if_neg (by omega), ho, hi1]
          · refine Ev.step (f := fun k => lysimeterref4_Get.j1 k l ((u + l[i].toNat % 128 * 2 ^ (7 * i) : Nat) : Int) ((i + 1 : Nat) : Int) false) (fun k => ?_) (Ev.step (f := fun _ => some (0, 0, 5)) (fun k => ?_) (Ev.now _))
            · simp only [lysimeterref4_Get.l0]
              by_cases hlt2 : ((i + 1 : Nat) : Int) < (l.length : Int)
              · rw [if_pos hlt2, decide_eq_false (by omega)]
              · rw [if_neg hlt2]
            · simp only [lysimeterref4_Get.j1]
              rw [if_neg (by decide)]
        · rw [if_neg h9']
          obtain ⟨b1, b2, b3, b4⟩ := get_bound hi9 hu hm.1 hm.2 h9'
          have ho : Go.bits .or .u64 (u : Int) (shl .u64 ((l[i].toNat % 128 : Nat) : Int) (7 * (i : Int))) = ((u + l[i].toNat % 128 * 2 ^ (7 * i) : Nat) : Int) := by
            rw [shl7 hi9 b2 _ rfl, or_high (7 * i) hu b1 b2]
          by_cases hge : l[i] ≥ 128
          · rw [if_pos hge]
            have h1 := ih (i + 1) (u + l[i].toNat % 128 * 2 ^ (7 * i)) (by omega) (b4 hge).1 (b4 hge).2
            refine Ev.step (f := fun k => lysimeterref4_Get.l0 k l ((u + l[i].toNat % 128 * 2 ^ (7 * i) : Nat) : Int) ((i + 1 : Nat) : Int)) (fun k => ?_) h1
            simp only [lysimeterref4_Get.j2]
            rw [if_neg (by decide), h7, if_pos (by omega), if_pos (by omega), if_pos (by omega), hr, if_neg (by omega), ho, hi1]
          · rw [if_neg hge]
            refine Ev.step (f := fun _ => some (if l[i] = 0 ∧ i > 0 then (0, 0, 5) else (wrap64 ((u + l[i].toNat % 128 * 2 ^ (7 * i) : Nat) : Int), ((i + 1 : Nat) : Int), 0))) (fun k => ?_) ?_
            · simp only [lysimeterref4_Get.j2]
              rw [if_neg (by decide), h7, if_pos (by omega), if_pos (by omega), if_pos (by omega), hr, if_pos (by omega), ho, hi1]
              by_cases hz : l[i] = 0
              · rw [if_pos (by omega)]
                by_cases hp : i > 0
                · rw [if_pos (by omega), if_pos ⟨hz, hp⟩]
                · rw [if_neg (by omega), if_neg (fun h => hp h.2)]
              · rw [if_neg (by omega), if_neg (fun h => hz h.1)]
            · by_cases hz : l[i] = 0 ∧ i > 0
              · rw [if_pos hz, if_pos hz]; exact Ev.now _
              · rw [if_neg hz, if_neg hz]; exact Ev.now _
    refine Ev.step (f := fun k => lysimeterref4_Get.j1 k l (u : Int) (i : Int) true) (fun k => ?_) (Ev.step (f := fun k => lysimeterref4_Get.j2 k l (u : Int) (i : Int) ((l[i].toNat % 128 : Nat) : Int) (decide (i = 9 ∧ l[i].toNat % 128 > 1))) (fun k => ?_) key)
    · simp only [lysimeterref4_Get.l0]
      rw [if_pos (by omega), decide_eq_true (by omega)]
    · simp only [lysimeterref4_Get.j1]
      rw [if_pos trivial, if_pos (by omega), if_pos (by omega), hr, hc]
      by_cases h9 : i = 9
      · rw [if_pos (by omega)]
        congr 1
        by_cases hx : l[i].toNat % 128 > 1
        · rw [decide_eq_true (by omega), decide_eq_true ⟨h9, hx⟩]
        · rw [decide_eq_false (by omega), decide_eq_false (fun h => hx h.2)]
      · rw [if_neg (by omega)]
        congr 1
        rw [decide_eq_false (fun h => h9 h.1)]
theorem refget_ev (l : List Int) (hl : ∀ x ∈ l, 0 ≤ x ∧ x ≤ 255) (hn : l.length ≤ 140737488355328) : Ev (fun k => lysimeterref4_Get.f k l) (vget l) :=
  refget_l0 l hl hn l.length 0 0 (by omega) (by decide) (by decide)
theorem signed_ev {n : Int} (h0 : -9223372036854775808 ≤ n) (h1 : n ≤ 9223372036854775807) : Ev (fun k => varint_Signed.f k n) (vput (zigN n)) := by
  unfold varint_Signed.f
  have h := put_ev (wrap64 ((zigN n : Nat) : Int))
  rw [u64N_wrap _ (zigN_lt h0 h1)] at h
  exact ev_one_bind (zig_ev h0 h1) (Ev.bind h (Ev.now _))
theorem refsigned_ev {n : Int} (h0 : -9223372036854775808 ≤ n) (h1 : n ≤ 9223372036854775807) : Ev (fun k => lysimeterref4_Signed.f k n) (vput (zigN n)) := by
  unfold lysimeterref4_Signed.f
  have h := refput_ev (wrap64 ((zigN n : Nat) : Int))
  rw [u64N_wrap _ (zigN_lt h0 h1)] at h
  exact ev_one_bind (refzig_ev h0 h1) (Ev.bind h (Ev.now _))
/-! ### what was put is taken -/
theorem vgetA_vput (n : Nat) : ∀ (u i acc : Nat) (more : List Int), u ≤ n → u * 2 ^ (7 * i) < 18446744073709551616 → i ≤ 9 → (0 < u ∨ i = 0) → vgetA (vput u ++ more) i acc = some (acc + u * 2 ^ (7 * i), i + (vput u).length) := by
  have small : ∀ (u i acc : Nat) (more : List Int), u < 128 → u * 2 ^ (7 * i) < 18446744073709551616 → i ≤ 9 → (0 < u ∨ i = 0) → vgetA (vput u ++ more) i acc = some (acc + u * 2 ^ (7 * i), i + (vput u).length) := by
    intro u i acc more h hu hi hp
    rw [vput_small h]
    simp only [List.singleton_append, vgetA, List.length_singleton]
    have h9 : ¬ (i = 9 ∧ (u : Int) > 1) := by
      rintro ⟨rfl, h2⟩
      have hp2 : (2 : Nat) ^ (7 * 9) = 9223372036854775808 := by decide
      omega
    rw [if_neg h9, if_neg (by omega), if_neg (by omega), Int.toNat_natCast, Nat.mod_eq_of_lt h]
  induction n with
  | zero => intro u i acc more hu; exact small u i acc more (by omega)
  | succ n ih =>
    intro u i acc more hu hlt hi hp
    by_cases h : u < 128
    · exact small u i acc more h hlt hi hp
    · have h9 : i ≤ 8 := by
        rcases Nat.lt_or_ge i 9 with h9 | h9
        · omega
        · obtain rfl : i = 9 := by omega
          have hp2 : (2 : Nat) ^ (7 * 9) = 9223372036854775808 := by decide
          omega
      have hp7 := pow7 h9
      have e1 : u * 2 ^ (7 * i) = u / 128 * 2 ^ (7 * (i + 1)) + u % 128 * 2 ^ (7 * i) := by
        rw [hp7.1]
        have h1 := Nat.div_add_mod u 128
        calc u * 2 ^ (7 * i) = (128 * (u / 128) + u % 128) * 2 ^ (7 * i) := by rw [h1]
          _ = _ := by rw [Nat.add_mul, Nat.mul_comm 128 (u / 128), Nat.mul_assoc]
      rw [vput_big h]
      simp only [List.cons_append, vgetA, List.length_cons]
      rw [if_neg (by omega), if_pos (by omega), Int.toNat_natCast, show (u % 128 + 128) % 128 = u % 128 from by omega]
      rw [ih (u / 128) (i + 1) _ more (by omega) (by omega) (by omega) (.inl (by omega))]
      congr 2 <;> omega
theorem vget_vput {u : Nat} (h : u < 18446744073709551616) (more : List Int) : vget (vput u ++ more) = (wrap64 (u : Int), ((vput u).length : Int), 0) := by
  unfold vget
  rw [vgetA_vput u u 0 0 more (Nat.le_refl _) (by omega) (by decide) (.inr rfl)]
  simp [vres]
/-! ### the sum -/
def step1 (c : Nat) : Nat := if c % 2 = 0 then c / 2 else (c / 2) ^^^ 2197175160
def steps : Nat → Nat → Nat
  | 0, c => c
  | n + 1, c => steps n (step1 c)
def crcB (c : Nat) (b : Int) : Nat := steps 8 (c ^^^ b.toNat)
def crcL (c : Nat) (l : List Int) : Nat := l.foldl crcB c
theorem step1_lt {c : Nat} (h : c < 4294967296) : step1 c < 4294967296 := by
  unfold step1
  split
  · omega
  · exact Nat.xor_lt_two_pow (n := 32) (by omega) (by omega)
theorem steps_lt (n : Nat) : ∀ {c : Nat}, c < 4294967296 → steps n c < 4294967296 := by
  induction n with
  | zero => intro c h; exact h
  | succ n ih => intro c h; exact ih (step1_lt h)
theorem crcB_lt {c : Nat} {b : Int} (h : c < 4294967296) (h0 : 0 ≤ b) (h1 : b ≤ 255) : crcB c b < 4294967296 :=
  steps_lt 8 (Nat.xor_lt_two_pow (n := 32) (by omega) (by omega))
theorem crcL_lt (l : List Int) : ∀ {c : Nat}, c < 4294967296 → (∀ x ∈ l, 0 ≤ x ∧ x ≤ 255) → crcL c l < 4294967296 := by
  induction l with
  | nil => intro c h _; exact h
  | cons b l ih =>
    intro c h hl
    exact ih (crcB_lt h (hl b List.mem_cons_self).1 (hl b List.mem_cons_self).2) (fun x hx => hl x (List.mem_cons_of_mem _ hx))
theorem crcL_append (c : Nat) (l m : List Int) : crcL c (l ++ m) = crcL (crcL c l) m := List.foldl_append
theorem rd_mem {l : List Int} {i : Nat} (h : i < l.length) : rd l (i : Int) = l[i] := by
  unfold rd
  rw [Int.toNat_natCast, List.getD_eq_getElem?_getD, List.getElem?_eq_getElem h]; rfl

theorem more_l1 (l : List Int) (n i : Int) (r : Int) : ∀ (j : Nat) (c : Nat), j ≤ 8 → c < 4294967296 → Ev (fun k => frame_more.l0 k ((steps j c : Nat) : Int) l n (wrap64 (i + 1))) r →
    Ev (fun k => frame_more.l1 k (c : Int) l n i ((8 - j : Nat) : Int)) r := by
  intro j
  induction j with
  | zero =>
    intro c _ _ h
    refine Ev.step (f := fun k => frame_more.l0 k (c : Int) l n (wrap64 (i + 1))) (fun k => ?_) h
    simp only [frame_more.l1]
    rw [if_neg (by omega)]
  | succ j ih =>
    intro c hj hc h
    have hw : wrap64 (((8 - (j + 1) : Nat) : Int) + 1) = ((8 - j : Nat) : Int) := by unfold wrap64; omega
    have hb : Go.bits .and .u32 (c : Int) 1 = ((c % 2 : Nat) : Int) := by
      rw [show (1 : Int) = ((1 : Nat) : Int) from rfl, u32_and_nat c 1 hc (by decide), nat_mask1]
    have hd : ((c : Int) / 2) = ((c / 2 : Nat) : Int) := by omega
    have hx : Go.bits .xor .u32 ((c / 2 : Nat) : Int) 2197175160 = (((c / 2) ^^^ 2197175160 : Nat) : Int) := by
      rw [show (2197175160 : Int) = ((2197175160 : Nat) : Int) from rfl, u32_xor_nat _ _ (by omega) (by decide)]
    refine Ev.step (f := fun k => frame_more.l1 k ((step1 c : Nat) : Int) l n i ((8 - j : Nat) : Int)) (fun k => ?_) (ih (step1 c) (by omega) (step1_lt hc) h)
    simp only [frame_more.l1]
    rw [if_pos (by omega), hb, hw, hd, hx]
    unfold step1
    by_cases e : c % 2 = 0
    · rw [if_pos (by omega), if_pos e]
    · rw [if_neg (by omega), if_neg e]
theorem more_l0 (l : List Int) (hl : ∀ x ∈ l, 0 ≤ x ∧ x ≤ 255) (hn : l.length ≤ 140737488351232) : ∀ (d i c : Nat), i + d = l.length → c < 4294967296 →
    Ev (fun k => frame_more.l0 k (c : Int) l (l.length : Int) (i : Int)) ((crcL c (l.drop i) : Nat) : Int) := by
  intro d
  induction d with
  | zero =>
    intro i c hi hc
    refine Ev.step (f := fun _ => some (c : Int)) (fun k => ?_) ?_
    · simp only [frame_more.l0]
      rw [if_neg (by omega)]
    · rw [List.drop_of_length_le (by omega)]
      exact Ev.now _
  | succ d ih =>
    intro i c hi hc
    have hlt : i < l.length := by omega
    have hm := hl l[i] (List.getElem_mem hlt)
    have hb : (l[i] % 4294967296) = ((l[i].toNat : Nat) : Int) := by omega
    have hx : Go.bits .xor .u32 (c : Int) ((l[i].toNat : Nat) : Int) = ((c ^^^ l[i].toNat : Nat) : Int) := u32_xor_nat _ _ hc (by omega)
    have hlt2 : c ^^^ l[i].toNat < 4294967296 := Nat.xor_lt_two_pow (n := 32) (by omega) (by omega)
    refine Ev.step (f := fun k => frame_more.l1 k ((c ^^^ l[i].toNat : Nat) : Int) l (l.length : Int) (i : Int) ((8 - 8 : Nat) : Int)) (fun k => ?_) ?_
    · simp only [frame_more.l0]
      rw [if_pos (by omega), if_pos (by omega), if_pos (by omega), rd_mem hlt, hb, hx]
      rfl
    · refine more_l1 l _ _ _ 8 _ (Nat.le_refl _) hlt2 ?_
      have h1 := ih (i + 1) (crcB c l[i]) (by omega) (crcB_lt hc hm.1 hm.2)
      have hw : wrap64 ((i : Int) + 1) = ((i + 1 : Nat) : Int) := by unfold wrap64; omega
      rw [hw, List.drop_eq_getElem_cons hlt]
      exact h1
theorem more_ev (l : List Int) (hl : ∀ x ∈ l, 0 ≤ x ∧ x ≤ 255) (hn : l.length ≤ 140737488351232) (c : Nat) (hc : c < 4294967296) :
    Ev (fun k => frame_more.f k (c : Int) l) ((crcL c l : Nat) : Int) := more_l0 l hl hn l.length 0 c (by omega) hc
def sumL (l : List Int) : Nat := crcL 4294967295 l ^^^ 4294967295
theorem sumL_lt {l : List Int} (hl : ∀ x ∈ l, 0 ≤ x ∧ x ≤ 255) : sumL l < 4294967296 :=
  Nat.xor_lt_two_pow (n := 32) (crcL_lt l (by decide) hl) (by decide)
theorem not32 {c : Nat} (h : c < 4294967296) : Go.bits .xor .u32 4294967295 (c : Int) = ((c ^^^ 4294967295 : Nat) : Int) := by
  rw [show (4294967295 : Int) = ((4294967295 : Nat) : Int) from rfl, u32_xor_nat _ _ (by decide) h, Nat.xor_comm]
theorem sum_ev (l : List Int) (hl : ∀ x ∈ l, 0 ≤ x ∧ x ≤ 255) (hn : l.length ≤ 140737488351232) : Ev (fun k => frame_Sum.f k l) ((sumL l : Nat) : Int) := by
  have h := more_ev l hl hn 4294967295 (by decide)
  unfold frame_Sum.f
  refine Ev.bind h ?_
  have hs := sumL_lt hl
  rw [not32 (crcL_lt l (by decide) hl), w64 (by omega) (by unfold sumL at hs; omega)]
  exact Ev.now _
/-! ### the reference's sum -/
theorem ref_l1 (l : List Int) (i : Int) (r : Int) : ∀ (j : Nat) (c : Nat), j ≤ 8 → c < 4294967296 → Ev (fun k => lysimeterref4_Sum.l0 k l ((steps j c : Nat) : Int) (wrap64 (i + 1))) r →
    Ev (fun k => lysimeterref4_Sum.l1 k l (c : Int) i ((8 - j : Nat) : Int)) r := by
  intro j
  induction j with
  | zero =>
    intro c _ _ h
    refine Ev.step (f := fun k => lysimeterref4_Sum.l0 k l (c : Int) (wrap64 (i + 1))) (fun k => ?_) h
    simp only [lysimeterref4_Sum.l1]
    rw [if_neg (by omega)]
  | succ j ih =>
    intro c hj hc h
    have hw : wrap64 (((8 - (j + 1) : Nat) : Int) + 1) = ((8 - j : Nat) : Int) := by unfold wrap64; omega
    have hb : Go.bits .and .u64 (c : Int) 1 = ((c % 2 : Nat) : Int) := by
      rw [show (1 : Int) = ((1 : Nat) : Int) from rfl, u64_and_nat c 1 (by omega) (by decide), nat_mask1]
    have hd : ((c : Int) / 2) = ((c / 2 : Nat) : Int) := by omega
    have hx : Go.bits .xor .u64 ((c / 2 : Nat) : Int) 2197175160 = (((c / 2) ^^^ 2197175160 : Nat) : Int) := by
      rw [show (2197175160 : Int) = ((2197175160 : Nat) : Int) from rfl, u64_xor_nat _ _ (by omega) (by decide)]
    refine Ev.step (f := fun k => lysimeterref4_Sum.l1 k l ((step1 c : Nat) : Int) i ((8 - j : Nat) : Int)) (fun k => ?_) (ih (step1 c) (by omega) (step1_lt hc) h)
    simp only [lysimeterref4_Sum.l1]
    rw [if_pos (by omega), hb, hw, hd, hx]
    unfold step1
    by_cases e : c % 2 = 0
    · rw [if_neg (by omega), if_pos e]
    · rw [if_pos (by omega), if_neg e]
theorem ref_l0 (l : List Int) (hl : ∀ x ∈ l, 0 ≤ x ∧ x ≤ 255) (hn : l.length ≤ 140737488351232) : ∀ (d i c : Nat), i + d = l.length → c < 4294967296 →
    Ev (fun k => lysimeterref4_Sum.l0 k l (c : Int) (i : Int)) ((crcL c (l.drop i) ^^^ 4294967295 : Nat) : Int) := by
  intro d
  induction d with
  | zero =>
    intro i c hi hc
    have hx : Go.bits .xor .u64 (c : Int) 4294967295 = ((c ^^^ 4294967295 : Nat) : Int) := by
      rw [show (4294967295 : Int) = ((4294967295 : Nat) : Int) from rfl, u64_xor_nat _ _ (by omega) (by decide)]
    have hlt : c ^^^ 4294967295 < 4294967296 := Nat.xor_lt_two_pow (n := 32) hc (by decide)
    refine Ev.step (f := fun _ => some ((c ^^^ 4294967295 : Nat) : Int)) (fun k => ?_) ?_
    · simp only [lysimeterref4_Sum.l0]
      rw [if_neg (by omega), hx, w64 (by omega) (by omega)]
    · rw [List.drop_of_length_le (by omega)]
      exact Ev.now _
  | succ d ih =>
    intro i c hi hc
    have hlt : i < l.length := by omega
    have hm := hl l[i] (List.getElem_mem hlt)
    have hb : IntKind.u64.wrap l[i] = ((l[i].toNat : Nat) : Int) := by rw [wu64]; omega
    have hx : Go.bits .xor .u64 (c : Int) ((l[i].toNat : Nat) : Int) = ((c ^^^ l[i].toNat : Nat) : Int) := u64_xor_nat _ _ (by omega) (by omega)
    have hlt2 : c ^^^ l[i].toNat < 4294967296 := Nat.xor_lt_two_pow (n := 32) (by omega) (by omega)
    refine Ev.step (f := fun k => lysimeterref4_Sum.l1 k l ((c ^^^ l[i].toNat : Nat) : Int) (i : Int) ((8 - 8 : Nat) : Int)) (fun k => ?_) ?_
    · simp only [lysimeterref4_Sum.l0]
      rw [if_pos (by omega), if_pos (by omega), rd_mem hlt, hb, hx]
      rfl
    · refine ref_l1 l _ _ 8 _ (Nat.le_refl _) hlt2 ?_
      have h1 := ih (i + 1) (crcB c l[i]) (by omega) (crcB_lt hc hm.1 hm.2)
      have hw : wrap64 ((i : Int) + 1) = ((i + 1 : Nat) : Int) := by unfold wrap64; omega
      rw [hw, List.drop_eq_getElem_cons hlt]
      exact h1
theorem refsum_ev (l : List Int) (hl : ∀ x ∈ l, 0 ≤ x ∧ x ≤ 255) (hn : l.length ≤ 140737488351232) : Ev (fun k => lysimeterref4_Sum.f k l) ((sumL l : Nat) : Int) :=
  ref_l0 l hl hn l.length 0 4294967295 (by omega) (by decide)
/-! ### what a manifest is asked -/
theorem rdT_nat {l : List S114} {i : Nat} (h : i < l.length) : rd_T114 l (i : Int) = l[i] := by
  unfold rd_T114
  rw [Int.toNat_natCast, List.getD_eq_getElem?_getD, List.getElem?_eq_getElem h]; rfl
def okB (nx last : Int) (x : S114) : Bool := decide (1 ≤ x.f0) && (decide (last < x.f0) && (decide (x.f0 < nx) && (decide (0 ≤ x.f1) && decide (x.f1 ≤ 20))))
def ids (nx : Int) : Int → List S114 → Bool
  | _, [] => true
  | last, x :: l => okB nx last x && ids nx x.f0 l
def timedB (a : Int) : Bool := decide (-9007199254740992 ≤ a) && decide (a ≤ 9007199254740993)
def okT (x : S114) : Bool := timedB x.f2 && (timedB x.f3 && decide (x.f2 < x.f3))
def times (l : List S114) : Bool := l.all okT
def chk (b : List S114) (nx lg lw : Int) : Int :=
  if b.length > 200 then 2 else if (nx < 1 ∨ nx > 1099511627776) ∨ (lg < 1 ∨ lg > 1099511627776) then 1 else if ids nx 0 b = true then (if times b = true ∧ timedB lw = true then 0 else 21) else 1
theorem timed_ev (a : Int) : manifest_timed.f a = some (timedB a) := by
  unfold manifest_timed.f timedB
  by_cases h : a ≥ -9007199254740992
  · rw [if_pos h, decide_eq_true (show -9007199254740992 ≤ a from h), Bool.true_and]
  · rw [if_neg h, decide_eq_false (show ¬ -9007199254740992 ≤ a from h), Bool.false_and]
section
variable {b : List S114} {nx lg lw : Int}
theorem chk_j2 {l : List S114} {i : Nat} (hi : i < l.length) (hn : l.length ≤ 140737488355328) {y0 y1 y2 y3 : Int} (c : Bool) {r : Int} (h : c = false → Ev (fun k => manifest_Check.l0 k y0 l (l.length : Int) ((i + 1 : Nat) : Int) b nx lg lw) r) :
    Ev (fun k => manifest_Check.j2 k l (l.length : Int) (i : Int) c b nx lg lw y0 y1 y2 y3) (if c = true then 1 else r) := by
  cases c
  · refine Ev.step (f := fun k => manifest_Check.l0 k y0 l (l.length : Int) ((i + 1 : Nat) : Int) b nx lg lw) (fun k => ?_) (h rfl)
    simp only [manifest_Check.j2]
    rw [if_neg (by decide), wi1 hi hn]
  · refine Ev.step (f := fun _ => some 1) (fun k => ?_) (Ev.now _)
    simp only [manifest_Check.j2]
    rw [if_pos (by trivial)]
theorem chk_l0 (l : List S114) (hn : l.length ≤ 140737488355328) {R : Int} (hend : ∀ last i : Int, ¬ i < (l.length : Int) → Ev (fun k => manifest_Check.l0 k last l (l.length : Int) i b nx lg lw) R) :
    ∀ (d i : Nat) (last : Int), i + d = l.length → Ev (fun k => manifest_Check.l0 k last l (l.length : Int) (i : Int) b nx lg lw) (if ids nx last (l.drop i) = true then R else 1) := by
  intro d
  induction d with
  | zero =>
    intro i last hi
    rw [List.drop_of_length_le (by omega)]
    exact hend _ _ (by omega)
  | succ d ih =>
    intro i last hi
    have hlt : i < l.length := by omega
    rw [List.drop_eq_getElem_cons hlt]
    have h1 := ih (i + 1) l[i].f0 (by omega)
    refine Ev.step (f := fun k => manifest_Check.j2 k l (l.length : Int) (i : Int) (!(okB nx last l[i])) b nx lg lw l[i].f0 l[i].f1 l[i].f2 l[i].f3) (fun k => ?_) (ev_eq (chk_j2 hlt hn _ (fun _ => h1)) ?_)
    · simp only [manifest_Check.l0]
      rw [if_pos (by omega), if_pos (by omega), if_pos (by omega), rdT_nat hlt]
      generalize l[i] = x
      by_cases c1 : x.f0 < 1
      · rw [if_pos c1]; congr 1; unfold okB; rw [decide_eq_false (by omega)]; rfl
      · rw [if_neg c1]
        by_cases c2 : x.f0 ≤ last
        · rw [if_pos c2]; congr 1; unfold okB; rw [decide_eq_false (p := last < x.f0) (by omega)]; simp
        · rw [if_neg c2]
          by_cases c3 : x.f0 ≥ nx
          · rw [if_pos c3]; congr 1; unfold okB; rw [decide_eq_false (p := x.f0 < nx) (by omega)]; simp
          · rw [if_neg c3]
            by_cases c4 : x.f1 < 0
            · rw [if_pos c4]; congr 1; unfold okB; rw [decide_eq_false (p := 0 ≤ x.f1) (by omega)]; simp
            · rw [if_neg c4]; congr 1; unfold okB
              rw [decide_eq_true (p := 1 ≤ x.f0) (by omega), decide_eq_true (p := last < x.f0) (by omega), decide_eq_true (p := x.f0 < nx) (by omega), decide_eq_true (p := 0 ≤ x.f1) (by omega)]
              by_cases c5 : x.f1 ≤ 20
              · rw [decide_eq_true c5, decide_eq_false (by omega)]; rfl
              · rw [decide_eq_false c5, decide_eq_true (by omega)]; rfl
    · rw [ids]
      cases okB nx last l[i] <;> rfl
theorem chk_j4 {l : List S114} {i : Nat} (hi : i < l.length) (hn : l.length ≤ 140737488355328) (c : Bool) {r : Int} (h : c = false → Ev (fun k => manifest_Check.l1 k l (l.length : Int) ((i + 1 : Nat) : Int) b nx lg lw) r) :
    Ev (fun k => manifest_Check.j4 k l (l.length : Int) (i : Int) c b nx lg lw) (if c = true then 21 else r) := by
  cases c
  · refine Ev.step (f := fun k => manifest_Check.l1 k l (l.length : Int) ((i + 1 : Nat) : Int) b nx lg lw) (fun k => ?_) (h rfl)
    simp only [manifest_Check.j4]
    rw [if_neg (by decide), wi1 hi hn]
  · refine Ev.step (f := fun _ => some 21) (fun k => ?_) (Ev.now _)
    simp only [manifest_Check.j4]
    rw [if_pos (by trivial)]
theorem chk_l1 (l : List S114) (hn : l.length ≤ 140737488355328) :
    ∀ (d i : Nat), i + d = l.length → Ev (fun k => manifest_Check.l1 k l (l.length : Int) (i : Int) b nx lg lw) (if times (l.drop i) = true ∧ timedB lw = true then 0 else 21) := by
  intro d
  induction d with
  | zero =>
    intro i hi
    rw [List.drop_of_length_le (by omega)]
    refine Ev.step (f := fun _ => some (if timedB lw = true then 0 else 21)) (fun k => ?_) (ev_eq (Ev.now _) (by simp [times]))
    simp only [manifest_Check.l1, timed_ev, Option.bind_some]
    rw [if_neg (by omega)]
    split <;> rfl
  | succ d ih =>
    intro i hi
    have hlt : i < l.length := by omega
    rw [List.drop_eq_getElem_cons hlt]
    refine Ev.step (f := fun k => manifest_Check.j4 k l (l.length : Int) (i : Int) (!(okT l[i])) b nx lg lw) (fun k => ?_) (ev_eq (chk_j4 hlt hn _ (fun _ => ih (i + 1) (by omega))) ?_)
    · simp only [manifest_Check.l1, timed_ev, Option.bind_some]
      rw [if_pos (by omega), if_pos (by omega), if_pos (by omega), rdT_nat hlt]
      generalize l[i] = x
      unfold okT
      cases timedB x.f2
      · rw [if_neg (by decide)]; rfl
      · rw [if_pos rfl]
        cases timedB x.f3
        · rw [if_neg (by decide)]; rfl
        · rw [if_pos rfl]; congr 1
          by_cases c : x.f2 < x.f3
          · rw [decide_eq_true c, decide_eq_false (by omega)]; rfl
          · rw [decide_eq_false c, decide_eq_true (by omega)]; rfl
    · unfold times
      rw [List.all_cons]
      cases okT l[i] <;> rfl
theorem chk_j0 (hn : b.length ≤ 140737488355328) (c : Bool) : Ev (fun k => manifest_Check.j0 k c b nx lg lw) (if c = true then 1 else if ids nx 0 b = true then (if times b = true ∧ timedB lw = true then 0 else 21) else 1) := by
  cases c
  · have h1 := chk_l1 (b := b) (nx := nx) (lg := lg) (lw := lw) b hn b.length 0 (by omega)
    rw [List.drop_zero] at h1
    have h2 := chk_l0 (b := b) (nx := nx) (lg := lg) (lw := lw) b hn (R := if times b = true ∧ timedB lw = true then 0 else 21) (fun last i hi => ?_) b.length 0 0 (by omega)
    · refine Ev.step (f := fun k => manifest_Check.l0 k 0 b (b.length : Int) 0 b nx lg lw) (fun k => ?_) (ev_eq h2 (by rw [List.drop_zero]; rfl))
      simp only [manifest_Check.j0]
      rw [if_neg (by decide)]
    · refine Ev.step (f := fun k => manifest_Check.l1 k b (b.length : Int) 0 b nx lg lw) (fun k => ?_) h1
      simp only [manifest_Check.l0]
      rw [if_neg hi]
  · refine Ev.step (f := fun _ => some 1) (fun k => ?_) (Ev.now _)
    simp only [manifest_Check.j0]
    rw [if_pos (by trivial)]
theorem chk_ev (hn : b.length ≤ 140737488355328) : Ev (fun k => manifest_Check.f k b nx lg lw) (chk b nx lg lw) := by
  unfold manifest_Check.f chk
  by_cases c0 : b.length > 200
  · rw [if_pos c0]; exact ev_if_pos (by omega) (Ev.now _)
  · rw [if_neg c0]
    refine ev_if_neg (by omega) ?_
    by_cases c1 : nx < 1
    · rw [if_pos (.inl (.inl c1))]; exact ev_if_pos c1 (chk_j0 hn true)
    · refine ev_if_neg c1 ?_
      by_cases c2 : nx > 1099511627776
      · rw [if_pos (.inl (.inr c2))]; exact ev_if_pos c2 (chk_j0 hn true)
      · refine ev_if_neg c2 ?_
        by_cases c3 : lg < 1
        · rw [if_pos (.inr (.inl c3))]; exact ev_if_pos c3 (chk_j0 hn true)
        · refine ev_if_neg c3 ?_
          by_cases c4 : lg > 1099511627776
          · rw [if_pos (.inr (.inr c4)), decide_eq_true c4]; exact chk_j0 hn true
          · rw [if_neg (by omega), decide_eq_false c4]; exact chk_j0 hn false
end
section
variable {b : List S114} {nx lg lw : Int}
theorem rchk_j2 {i : Nat} (hi : i < b.length) (hn : b.length ≤ 140737488355328) (c : Bool) {r : Int} (h : c = false → Ev (fun k => lysimeterref16_CheckManifest.l0 k ((i + 1 : Nat) : Int) b nx lg lw) r) :
    Ev (fun k => lysimeterref16_CheckManifest.j2 k (i : Int) c b nx lg lw) (if c = true then 1 else r) := by
  cases c
  · refine Ev.step (f := fun k => lysimeterref16_CheckManifest.l0 k ((i + 1 : Nat) : Int) b nx lg lw) (fun k => ?_) (h rfl)
    simp only [lysimeterref16_CheckManifest.j2]
    rw [if_neg (by decide), wi1 hi hn]
  · refine Ev.step (f := fun _ => some 1) (fun k => ?_) (Ev.now _)
    simp only [lysimeterref16_CheckManifest.j2]
    rw [if_pos (by trivial)]
theorem rchk_l0 (hn : b.length ≤ 140737488355328) {R : Int} (hend : ∀ i : Int, ¬ i < (b.length : Int) → Ev (fun k => lysimeterref16_CheckManifest.l0 k i b nx lg lw) R) :
    ∀ (d i : Nat) (last : Int), i + d = b.length → (i = 0 → last = 0) → (∀ h : 0 < i, ∀ h' : i - 1 < b.length, last = b[i - 1].f0) → Ev (fun k => lysimeterref16_CheckManifest.l0 k (i : Int) b nx lg lw) (if ids nx last (b.drop i) = true then R else 1) := by
  intro d
  induction d with
  | zero =>
    intro i last hi _ _
    rw [List.drop_of_length_le (by omega)]
    exact hend _ (by omega)
  | succ d ih =>
    intro i last hi hl0 hl1
    have hlt : i < b.length := by omega
    rw [List.drop_eq_getElem_cons hlt]
    have h1 := ih (i + 1) b[i].f0 (by omega) (by omega) (fun _ _ => by simp)
    refine Ev.step (f := fun k => lysimeterref16_CheckManifest.j2 k (i : Int) (!(okB nx last b[i])) b nx lg lw) (fun k => ?_) (ev_eq (rchk_j2 hlt hn _ (fun _ => h1)) ?_)
    · have rest : ∀ x : S114, ¬ x.f0 < 1 → ¬ x.f0 ≤ last → (if x.f0 ≥ nx then lysimeterref16_CheckManifest.j2 k (i : Int) true b nx lg lw else if x.f1 < 0 then lysimeterref16_CheckManifest.j2 k (i : Int) true b nx lg lw else lysimeterref16_CheckManifest.j2 k (i : Int) (decide (x.f1 > 20)) b nx lg lw) = lysimeterref16_CheckManifest.j2 k (i : Int) (!(okB nx last x)) b nx lg lw := by
        intro x c1 c2
        by_cases c3 : x.f0 ≥ nx
        · rw [if_pos c3]; congr 1; unfold okB; rw [decide_eq_false (p := x.f0 < nx) (by omega)]; simp
        · rw [if_neg c3]
          by_cases c4 : x.f1 < 0
          · rw [if_pos c4]; congr 1; unfold okB; rw [decide_eq_false (p := 0 ≤ x.f1) (by omega)]; simp
          · rw [if_neg c4]; congr 1; unfold okB
            rw [decide_eq_true (p := 1 ≤ x.f0) (by omega), decide_eq_true (p := last < x.f0) (by omega), decide_eq_true (p := x.f0 < nx) (by omega), decide_eq_true (p := 0 ≤ x.f1) (by omega)]
            by_cases c5 : x.f1 ≤ 20
            · rw [decide_eq_true c5, decide_eq_false (by omega)]; rfl
            · rw [decide_eq_false c5, decide_eq_true (by omega)]; rfl
      simp only [lysimeterref16_CheckManifest.l0]
      rw [if_pos (by omega), if_pos (by omega), rdT_nat hlt]
      by_cases c1 : b[i].f0 < 1
      · rw [if_pos c1]; congr 1; unfold okB; rw [decide_eq_false (by omega)]; rfl
      · rw [if_neg c1]
        rcases Nat.eq_zero_or_pos i with hz | hz
        · have hl := hl0 hz
          rw [if_neg (by omega)]
          exact rest _ c1 (by omega)
        · have hi1 : i - 1 < b.length := by omega
          have hl := hl1 hz hi1
          have e1 : wrap64 ((i : Int) - 1) = ((i - 1 : Nat) : Int) := by rw [w64 (by omega) (by omega)]; omega
          rw [if_pos (by omega), e1, if_pos (by omega), if_pos (by omega), rdT_nat hi1, ← hl]
          by_cases c2 : b[i].f0 ≤ last
          · rw [if_pos c2]; congr 1; unfold okB; rw [decide_eq_false (p := last < b[i].f0) (by omega)]; simp
          · rw [if_neg c2]
            exact rest _ c1 c2
    · rw [ids]
      cases okB nx last b[i] <;> rfl
theorem rchk_j5 {i : Nat} (hi : i < b.length) (hn : b.length ≤ 140737488355328) (c : Bool) {r : Int} (h : c = false → Ev (fun k => lysimeterref16_CheckManifest.l1 k ((i + 1 : Nat) : Int) b nx lg lw) r) :
    Ev (fun k => lysimeterref16_CheckManifest.j5 k (i : Int) c b nx lg lw) (if c = true then 21 else r) := by
  cases c
  · refine Ev.step (f := fun k => lysimeterref16_CheckManifest.l1 k ((i + 1 : Nat) : Int) b nx lg lw) (fun k => ?_) (h rfl)
    simp only [lysimeterref16_CheckManifest.j5]
    rw [if_neg (by decide), wi1 hi hn]
  · refine Ev.step (f := fun _ => some 21) (fun k => ?_) (Ev.now _)
    simp only [lysimeterref16_CheckManifest.j5]
    rw [if_pos (by trivial)]
theorem rchk_l1 (hn : b.length ≤ 140737488355328) :
    ∀ (d i : Nat), i + d = b.length → Ev (fun k => lysimeterref16_CheckManifest.l1 k (i : Int) b nx lg lw) (if times (b.drop i) = true then 0 else 21) := by
  intro d
  induction d with
  | zero =>
    intro i hi
    rw [List.drop_of_length_le (by omega)]
    refine Ev.step (f := fun _ => some 0) (fun k => ?_) (Ev.now _)
    simp only [lysimeterref16_CheckManifest.l1]
    rw [if_neg (by omega)]
  | succ d ih =>
    intro i hi
    have hlt : i < b.length := by omega
    rw [List.drop_eq_getElem_cons hlt]
    refine Ev.step (f := fun k => lysimeterref16_CheckManifest.j5 k (i : Int) (!(okT b[i])) b nx lg lw) (fun k => ?_) (ev_eq (rchk_j5 hlt hn _ (fun _ => ih (i + 1) (by omega))) ?_)
    · simp only [lysimeterref16_CheckManifest.l1]
      rw [if_pos (by omega), if_pos (by omega), rdT_nat hlt]
      generalize b[i] = x
      unfold okT timedB
      by_cases c1 : x.f2 < -9007199254740992
      · rw [if_pos c1, decide_eq_false (p := -9007199254740992 ≤ x.f2) (by omega)]; rfl
      · rw [if_neg c1, decide_eq_true (p := -9007199254740992 ≤ x.f2) (by omega)]
        by_cases c2 : x.f2 > 9007199254740993
        · rw [if_pos c2, decide_eq_false (p := x.f2 ≤ 9007199254740993) (by omega)]; rfl
        · rw [if_neg c2, decide_eq_true (p := x.f2 ≤ 9007199254740993) (by omega)]
          by_cases c3 : x.f3 < -9007199254740992
          · rw [if_pos c3, decide_eq_false (p := -9007199254740992 ≤ x.f3) (by omega)]; rfl
          · rw [if_neg c3, decide_eq_true (p := -9007199254740992 ≤ x.f3) (by omega)]
            by_cases c4 : x.f3 > 9007199254740993
            · rw [if_pos c4, decide_eq_false (p := x.f3 ≤ 9007199254740993) (by omega)]; rfl
            · rw [if_neg c4, decide_eq_true (p := x.f3 ≤ 9007199254740993) (by omega)]
              by_cases c : x.f2 < x.f3
              · rw [decide_eq_true c, decide_eq_false (by omega)]; rfl
              · rw [decide_eq_false c, decide_eq_true (by omega)]; rfl
    · unfold times
      rw [List.all_cons]
      cases okT b[i] <;> rfl
theorem rchk_j3 (hn : b.length ≤ 140737488355328) (c : Bool) : Ev (fun k => lysimeterref16_CheckManifest.j3 k c b nx lg lw) (if c = true then 21 else if times b = true then 0 else 21) := by
  cases c
  · have h1 := rchk_l1 (b := b) (nx := nx) (lg := lg) (lw := lw) hn b.length 0 (by omega)
    refine Ev.step (f := fun k => lysimeterref16_CheckManifest.l1 k 0 b nx lg lw) (fun k => ?_) (ev_eq h1 (by rw [List.drop_zero]; rfl))
    simp only [lysimeterref16_CheckManifest.j3]
    rw [if_neg (by decide)]
  · refine Ev.step (f := fun _ => some 21) (fun k => ?_) (Ev.now _)
    simp only [lysimeterref16_CheckManifest.j3]
    rw [if_pos (by trivial)]
theorem rchk_j0 (hn : b.length ≤ 140737488355328) (c : Bool) : Ev (fun k => lysimeterref16_CheckManifest.j0 k c b nx lg lw) (if c = true then 1 else if ids nx 0 b = true then (if times b = true ∧ timedB lw = true then 0 else 21) else 1) := by
  cases c
  · have h2 := rchk_l0 (b := b) (nx := nx) (lg := lg) (lw := lw) hn (R := if times b = true ∧ timedB lw = true then 0 else 21) (fun i hi => ?_) b.length 0 0 (by omega) (fun _ => rfl) (fun h => absurd h (by omega))
    · refine Ev.step (f := fun k => lysimeterref16_CheckManifest.l0 k 0 b nx lg lw) (fun k => ?_) (ev_eq h2 (by rw [List.drop_zero]; rfl))
      simp only [lysimeterref16_CheckManifest.j0]
      rw [if_neg (by decide)]
    · refine Ev.step (f := fun k => lysimeterref16_CheckManifest.j3 k (!(timedB lw)) b nx lg lw) (fun k => ?_) (ev_eq (rchk_j3 hn _) ?_)
      · simp only [lysimeterref16_CheckManifest.l0]
        rw [if_neg hi]
        unfold timedB
        by_cases c1 : lw < -9007199254740992
        · rw [if_pos c1, decide_eq_false (p := -9007199254740992 ≤ lw) (by omega)]; rfl
        · rw [if_neg c1, decide_eq_true (p := -9007199254740992 ≤ lw) (by omega)]
          by_cases c2 : lw ≤ 9007199254740993
          · rw [decide_eq_true c2, decide_eq_false (by omega)]; rfl
          · rw [decide_eq_false c2, decide_eq_true (by omega)]; rfl
      · cases timedB lw <;> simp
  · refine Ev.step (f := fun _ => some 1) (fun k => ?_) (Ev.now _)
    simp only [lysimeterref16_CheckManifest.j0]
    rw [if_pos (by trivial)]
theorem rchk_ev (hn : b.length ≤ 140737488355328) : Ev (fun k => lysimeterref16_CheckManifest.f k b nx lg lw) (chk b nx lg lw) := by
  unfold lysimeterref16_CheckManifest.f chk
  by_cases c0 : b.length > 200
  · rw [if_pos c0]; exact ev_if_pos (by omega) (Ev.now _)
  · rw [if_neg c0]
    refine ev_if_neg (by omega) ?_
    by_cases c1 : nx < 1
    · rw [if_pos (.inl (.inl c1))]; exact ev_if_pos c1 (rchk_j0 hn true)
    · refine ev_if_neg c1 ?_
      by_cases c3 : lg < 1
      · rw [if_pos (.inr (.inl c3))]; exact ev_if_pos c3 (rchk_j0 hn true)
      · refine ev_if_neg c3 ?_
        by_cases c2 : nx > 1099511627776
        · rw [if_pos (.inl (.inr c2))]; exact ev_if_pos c2 (rchk_j0 hn true)
        · refine ev_if_neg c2 ?_
          by_cases c4 : lg > 1099511627776
          · rw [if_pos (.inr (.inr c4)), decide_eq_true c4]; exact rchk_j0 hn true
          · rw [if_neg (by omega), decide_eq_false c4]; exact rchk_j0 hn false
end
section
variable {b : List S114} {nx lg lw : Int}
theorem sm_l0 (hb : b.length ≤ 2000) : ∀ (d i : Nat), i + d = b.length → Ev (fun k => lysimeterref16_SameManifest.l0 k (i : Int) b nx lg lw b nx lg lw) true := by
  intro d
  induction d with
  | zero =>
    intro i hi
    refine Ev.step (f := fun _ => some true) (fun k => ?_) (Ev.now _)
    simp only [lysimeterref16_SameManifest.l0]
    rw [if_neg (by omega)]
  | succ d ih =>
    intro i hi
    have hlt : i < b.length := by omega
    refine Ev.step (f := fun k => lysimeterref16_SameManifest.l0 k ((i + 1 : Nat) : Int) b nx lg lw b nx lg lw) (fun k => ?_) (ih (i + 1) (by omega))
    simp only [lysimeterref16_SameManifest.l0]
    rw [if_pos (by omega), if_pos (by omega), if_pos (by omega), if_neg (by simp), wi1 hlt (by omega)]
theorem sm_self (hb : b.length ≤ 2000) : Ev (fun k => lysimeterref16_SameManifest.f k b nx lg lw b nx lg lw) true := by
  unfold lysimeterref16_SameManifest.f
  refine ev_if_pos rfl (ev_if_pos rfl (ev_if_pos rfl ?_))
  rw [bne_self_eq_false]
  refine Ev.step (f := fun k => lysimeterref16_SameManifest.l0 k 0 b nx lg lw b nx lg lw) (fun k => ?_) (sm_l0 hb b.length 0 (by omega))
  simp only [lysimeterref16_SameManifest.j0]
  rw [if_neg (by decide)]
end
/-! ### the bytes of a manifest -/
def rowB (x : S114) : List Int := vput (u64N x.f0) ++ (vput (u64N x.f1) ++ (vput (zigN x.f2) ++ vput (zigN x.f3)))
def rowsB : List S114 → List Int
  | [] => []
  | x :: l => rowB x ++ rowsB l
def bodyB (b : List S114) (nx lg lw : Int) : List Int := [76, 89, 83, 77] ++ (vput (u64N nx) ++ (vput (u64N lg) ++ (vput (zigN lw) ++ (vput (u64N (b.length : Int)) ++ rowsB b))))
def fourB (s : Int) : List Int := [s % 256, (s / 256) % 256, (s / 65536) % 256, (s / 16777216) % 256]
def sealB (l : List Int) : List Int := l ++ fourB ((sumL l : Nat) : Int)
def packV (b : List S114) (nx lg lw : Int) : List Int × Int := if chk b nx lg lw = 0 then (sealB (bodyB b nx lg lw), 0) else ([], chk b nx lg lw)
structure okR (x : S114) : Prop where
  h0 : 0 ≤ x.f0 ∧ x.f0 ≤ 1099511627776
  h1 : 0 ≤ x.f1 ∧ x.f1 ≤ 20
  h2 : -9007199254740992 ≤ x.f2 ∧ x.f2 ≤ 9007199254740993
  h3 : -9007199254740992 ≤ x.f3 ∧ x.f3 ≤ 9007199254740993
theorem timedB_iff {a : Int} (h : timedB a = true) : -9007199254740992 ≤ a ∧ a ≤ 9007199254740993 := by
  unfold timedB at h
  simpa using h
theorem ids_rows {nx : Int} (hn : nx ≤ 1099511627776) : ∀ (l : List S114) (last : Int), ids nx last l = true → ∀ x ∈ l, (0 ≤ x.f0 ∧ x.f0 ≤ 1099511627776) ∧ (0 ≤ x.f1 ∧ x.f1 ≤ 20)
  | [], _, _, x, hx => by cases hx
  | y :: l, last, h, x, hx => by
    unfold ids at h
    rw [Bool.and_eq_true] at h
    have h1 := h.1
    unfold okB at h1
    simp only [Bool.and_eq_true, decide_eq_true_eq] at h1
    rcases List.mem_cons.1 hx with rfl | hx
    · omega
    · exact ids_rows hn l _ h.2 x hx
theorem chk_ok {b : List S114} {nx lg lw : Int} (h : chk b nx lg lw = 0) : b.length ≤ 200 ∧ (1 ≤ nx ∧ nx ≤ 1099511627776) ∧ (1 ≤ lg ∧ lg ≤ 1099511627776) ∧ (-9007199254740992 ≤ lw ∧ lw ≤ 9007199254740993) ∧ ∀ x ∈ b, okR x := by
  unfold chk at h
  split at h
  · cases h
  split at h
  · cases h
  split at h
  · rename_i h1 h2 h3
    split at h
    · rename_i h4
      refine ⟨by omega, by omega, by omega, timedB_iff h4.2, fun x hx => ?_⟩
      have hi := ids_rows (by omega) b 0 h3 x hx
      have ht := List.all_eq_true.1 h4.1 x hx
      unfold okT at ht
      simp only [Bool.and_eq_true] at ht
      exact ⟨hi.1, hi.2, timedB_iff ht.1, timedB_iff ht.2.1⟩
    · cases h
  · cases h
theorem rowB_len {x : S114} (h : okR x) : (rowB x).length ≤ 40 := by
  have h2 := h.h2
  have h3 := h.h3
  have a0 := vput_len10 (u64N_lt x.f0)
  have a1 := vput_len10 (u64N_lt x.f1)
  have a2 := vput_len10 (zigN_lt (n := x.f2) (by omega) (by omega))
  have a3 := vput_len10 (zigN_lt (n := x.f3) (by omega) (by omega))
  unfold rowB
  simp only [List.length_append]
  clear h h2 h3
  omega
theorem rowsB_len : ∀ {l : List S114}, (∀ x ∈ l, okR x) → (rowsB l).length ≤ 40 * l.length
  | [], _ => Nat.le_refl _
  | x :: l, h => by
    have h1 := rowB_len (h x List.mem_cons_self)
    have h2 := rowsB_len (fun y hy => h y (List.mem_cons_of_mem _ hy))
    unfold rowsB
    rw [List.length_append, List.length_cons]
    omega
theorem vrange (u : Nat) : ∀ x ∈ vput u, 0 ≤ x ∧ x ≤ 255 := vput_range u u (Nat.le_refl _)
theorem app_range {l m : List Int} (h1 : ∀ x ∈ l, 0 ≤ x ∧ x ≤ 255) (h2 : ∀ x ∈ m, 0 ≤ x ∧ x ≤ 255) : ∀ x ∈ l ++ m, 0 ≤ x ∧ x ≤ 255 := fun x hx => (List.mem_append.1 hx).elim (h1 x) (h2 x)
theorem rowB_range (x : S114) : ∀ y ∈ rowB x, 0 ≤ y ∧ y ≤ 255 := app_range (vrange _) (app_range (vrange _) (app_range (vrange _) (vrange _)))
theorem rowsB_range : ∀ (l : List S114), ∀ y ∈ rowsB l, 0 ≤ y ∧ y ≤ 255
  | [], y, hy => by cases hy
  | x :: l, y, hy => app_range (rowB_range x) (rowsB_range l) y hy
theorem mark_range : ∀ x ∈ ([76, 89, 83, 77] : List Int), 0 ≤ x ∧ x ≤ 255 := by decide
theorem bodyB_range (b : List S114) (nx lg lw : Int) : ∀ y ∈ bodyB b nx lg lw, 0 ≤ y ∧ y ≤ 255 := app_range mark_range (app_range (vrange _) (app_range (vrange _) (app_range (vrange _) (app_range (vrange _) (rowsB_range b)))))
theorem bodyB_len {b : List S114} {nx lg lw : Int} (h : chk b nx lg lw = 0) : (bodyB b nx lg lw).length ≤ 8100 := by
  obtain ⟨h1, h2, h3, h4, h5⟩ := chk_ok h
  have a0 := vput_len10 (u64N_lt nx)
  have a1 := vput_len10 (u64N_lt lg)
  have a2 := vput_len10 (zigN_lt (n := lw) (by omega) (by omega))
  have a3 := vput_len10 (u64N_lt (b.length : Int))
  have a4 := rowsB_len h5
  unfold bodyB
  simp only [List.length_append]
  clear h h2 h3 h4 h5
  simp only [List.length_cons, List.length_nil]
  omega
theorem fourB_range (s : Int) : ∀ y ∈ fourB s, 0 ≤ y ∧ y ≤ 255 := by
  intro y hy
  unfold fourB at hy
  simp only [List.mem_cons, List.not_mem_nil, or_false] at hy
  rcases hy with rfl | rfl | rfl | rfl <;> omega
theorem sealB_range {l : List Int} (h : ∀ y ∈ l, 0 ≤ y ∧ y ≤ 255) : ∀ y ∈ sealB l, 0 ≤ y ∧ y ≤ 255 := app_range h (fourB_range _)
theorem sealB_len (l : List Int) : (sealB l).length = l.length + 4 := by unfold sealB fourB; simp
theorem pnum_ev {acc : List Int} (ha : acc.length < 100000000) (a : Int) : Ev (fun k => manifest_Pack.num k acc a) (acc ++ vput (u64N a)) := by
  have h := vput_len10 (u64N_lt a)
  exact Ev.bind (put_ev a) (ev_if_pos ⟨by omega, by omega⟩ (Ev.now _))
theorem psgn_ev {acc : List Int} (ha : acc.length < 100000000) {a : Int} (h0 : -9223372036854775808 ≤ a) (h1 : a ≤ 9223372036854775807) : Ev (fun k => manifest_Pack.sgn k acc a) (acc ++ vput (zigN a)) := by
  have h := vput_len10 (zigN_lt h0 h1)
  exact Ev.bind (signed_ev h0 h1) (ev_if_pos ⟨by omega, by omega⟩ (Ev.now _))
theorem pl0_ev : ∀ (l : List S114) (acc : List Int), (∀ x ∈ l, okR x) → acc.length + 40 * l.length < 100000000 → Ev (fun k => manifest_Pack.l0 k acc l) (acc ++ rowsB l)
  | [], acc, _, _ => by
    unfold rowsB
    rw [List.append_nil]
    exact Ev.now _
  | x :: l, acc, h, hl => by
    have hx := h x List.mem_cons_self
    have h2 := hx.h2
    have h3 := hx.h3
    have a0 := vput_len10 (u64N_lt x.f0)
    have a1 := vput_len10 (u64N_lt x.f1)
    have a2 := vput_len10 (zigN_lt (n := x.f2) (by omega) (by omega))
    have a3 := vput_len10 (zigN_lt (n := x.f3) (by omega) (by omega))
    rw [List.length_cons] at hl
    have e : acc ++ rowsB (x :: l) = (acc ++ vput (u64N x.f0) ++ vput (u64N x.f1) ++ vput (zigN x.f2) ++ vput (zigN x.f3)) ++ rowsB l := by
      show acc ++ (rowB x ++ rowsB l) = _
      unfold rowB
      simp only [List.append_assoc]
    rw [e]
    have l1 : (acc ++ vput (u64N x.f0)).length = acc.length + (vput (u64N x.f0)).length := List.length_append
    have l2 : (acc ++ vput (u64N x.f0) ++ vput (u64N x.f1)).length = acc.length + (vput (u64N x.f0)).length + (vput (u64N x.f1)).length := by simp only [List.length_append]
    have l3 : (acc ++ vput (u64N x.f0) ++ vput (u64N x.f1) ++ vput (zigN x.f2)).length = acc.length + (vput (u64N x.f0)).length + (vput (u64N x.f1)).length + (vput (zigN x.f2)).length := by simp only [List.length_append]
    have l4 : (acc ++ vput (u64N x.f0) ++ vput (u64N x.f1) ++ vput (zigN x.f2) ++ vput (zigN x.f3)).length = acc.length + (vput (u64N x.f0)).length + (vput (u64N x.f1)).length + (vput (zigN x.f2)).length + (vput (zigN x.f3)).length := by simp only [List.length_append]
    have g0 : acc.length < 100000000 := by omega
    have g1 : (acc ++ vput (u64N x.f0)).length < 100000000 := by omega
    have g2 : (acc ++ vput (u64N x.f0) ++ vput (u64N x.f1)).length < 100000000 := by omega
    have g3 : (acc ++ vput (u64N x.f0) ++ vput (u64N x.f1) ++ vput (zigN x.f2)).length < 100000000 := by omega
    exact Ev.bind (pnum_ev g0 _) (Ev.bind (pnum_ev g1 _) (Ev.bind (psgn_ev g2 (by omega) (by omega)) (Ev.bind (psgn_ev g3 (by omega) (by omega)) (pl0_ev l _ (fun y hy => h y (List.mem_cons_of_mem _ hy)) (by omega)))))
theorem summed_ev {l : List Int} (hl : ∀ x ∈ l, 0 ≤ x ∧ x ≤ 255) (hn : l.length ≤ 1000000) : Ev (fun k => block_Summed.f k l) (sealB l) := by
  refine Ev.bind (sum_ev l hl (by omega)) (ev_some_bind (ev_if_pos ?_ (Ev.now _)))
  simp only [List.length_cons, List.length_nil]
  clear hl
  omega
theorem pack_ev {b : List S114} {nx lg lw : Int} (hn : b.length ≤ 140737488355328) : Ev (fun k => manifest_Pack.f k b nx lg lw) (packV b nx lg lw) := by
  unfold packV manifest_Pack.f
  refine Ev.bind (chk_ev hn) ?_
  by_cases c : chk b nx lg lw = 0
  · rw [if_pos c]
    refine ev_if_pos c ?_
    have hb := bodyB_len c
    have hr := bodyB_range b nx lg lw
    obtain ⟨h1, h2, h3, h4, h5⟩ := chk_ok c
    have a0 := vput_len10 (u64N_lt nx)
    have a1 := vput_len10 (u64N_lt lg)
    have a2 := vput_len10 (zigN_lt (n := lw) (by omega) (by omega))
    have a3 := vput_len10 (u64N_lt (b.length : Int))
    have g0 : ([76, 89, 83, 77] : List Int).length < 100000000 := by decide
    have g1 : ([76, 89, 83, 77] ++ vput (u64N nx) : List Int).length < 100000000 := by simp only [List.length_append, List.length_cons, List.length_nil]; omega
    have g2 : ([76, 89, 83, 77] ++ vput (u64N nx) ++ vput (u64N lg) : List Int).length < 100000000 := by simp only [List.length_append, List.length_cons, List.length_nil]; omega
    have g3 : ([76, 89, 83, 77] ++ vput (u64N nx) ++ vput (u64N lg) ++ vput (zigN lw) : List Int).length < 100000000 := by simp only [List.length_append, List.length_cons, List.length_nil]; omega
    have g4 : ([76, 89, 83, 77] ++ vput (u64N nx) ++ vput (u64N lg) ++ vput (zigN lw) ++ vput (u64N (b.length : Int)) : List Int).length + 40 * b.length < 100000000 := by simp only [List.length_append, List.length_cons, List.length_nil]; omega
    have e : [76, 89, 83, 77] ++ vput (u64N nx) ++ vput (u64N lg) ++ vput (zigN lw) ++ vput (u64N (b.length : Int)) ++ rowsB b = bodyB b nx lg lw := by unfold bodyB; simp only [List.append_assoc]
    refine Ev.bind (pnum_ev g0 _) (Ev.bind (pnum_ev g1 _) (Ev.bind (psgn_ev g2 (by omega) (by omega)) (Ev.bind (pnum_ev g3 _) (Ev.bind (pl0_ev b _ h5 g4) ?_))))
    rw [e]
    exact Ev.bind (summed_ev hr (by omega)) (Ev.now _)
  · rw [if_neg c]
    exact ev_if_neg c (Ev.now _)
theorem and255_i64 (n : Nat) (h : n < 9223372036854775808) : Go.bits .and .i64 (n : Int) 255 % 256 = ((n % 256 : Nat) : Int) := by
  have := and_mask_i64 (a := (n : Int)) 8 (by decide) (by omega) (by omega)
  rw [show ((2 ^ 8 - 1 : Nat) : Int) = 255 from by decide, Int.toNat_natCast, show (2 : Nat) ^ 8 = 256 from rfl] at this
  rw [this]
  omega
theorem rfour_ev {n : Nat} (h : n < 4294967296) : lysimeterref4_Four.f (n : Int) = some (fourB (n : Int)) := by
  unfold lysimeterref4_Four.f fourB
  have e2 : ((n : Int) / 256) = ((n / 256 : Nat) : Int) := by omega
  have e3 : ((n : Int) / 65536) = ((n / 65536 : Nat) : Int) := by omega
  have e4 : ((n : Int) / 16777216) = ((n / 16777216 : Nat) : Int) := by omega
  rw [e2, e3, e4, and255_i64 _ (by omega), and255_i64 _ (by omega), and255_i64 _ (by omega), and255_i64 _ (by omega)]
  rfl
theorem sealed_ev {l : List Int} (hl : ∀ x ∈ l, 0 ≤ x ∧ x ≤ 255) (hn : l.length ≤ 1000000) : Ev (fun k => lysimeterref16_sealed.f k l) (sealB l) := by
  have hs := sumL_lt hl
  refine Ev.bind (refsum_ev l hl (by clear hs; omega)) (ev_one_bind (rfour_ev hs) (ev_if_pos ?_ (Ev.now _)))
  unfold fourB
  simp only [List.length_cons, List.length_nil]
  clear hl hs
  omega
theorem rman_l0 {b : List S114} {nx lg lw : Int} {body : List Int} (hb : ∀ x ∈ b, okR x) (hn : b.length ≤ 200) (hr : ∀ x ∈ body, 0 ≤ x ∧ x ≤ 255) (hbl : body.length ≤ 1000000) :
    ∀ (d i : Nat) (acc : List Int), i + d = b.length → acc ++ rowsB (b.drop i) = body → Ev (fun k => lysimeterref16_Manifest.l0 k acc (i : Int) b nx lg lw) (sealB body, 0) := by
  intro d
  induction d with
  | zero =>
    intro i acc hi he
    obtain rfl : i = b.length := by omega
    rw [List.drop_length, show rowsB ([] : List S114) = [] from rfl, List.append_nil] at he
    subst he
    refine Ev.step (f := fun k => (lysimeterref16_sealed.f k acc).bind fun t => some (t, 0)) (fun k => ?_) (Ev.bind (sealed_ev hr hbl) (Ev.now _))
    simp only [lysimeterref16_Manifest.l0]
    rw [if_neg (by omega)]
  | succ d ih =>
    intro i acc hi he
    have hlt : i < b.length := by omega
    have hx := hb b[i] (List.getElem_mem hlt)
    obtain ⟨x, hxe⟩ : ∃ x, x = b[i] := ⟨_, rfl⟩
    rw [← hxe] at hx
    have h2 := hx.h2
    have h3 := hx.h3
    have e : acc ++ rowsB (b.drop i) = (acc ++ vput (u64N x.f0) ++ vput (u64N x.f1) ++ vput (zigN x.f2) ++ vput (zigN x.f3)) ++ rowsB (b.drop (i + 1)) := by
      rw [List.drop_eq_getElem_cons hlt, ← hxe]
      show acc ++ (rowB x ++ rowsB _) = _
      unfold rowB
      simp only [List.append_assoc]
    have l4 : (acc ++ vput (u64N x.f0) ++ vput (u64N x.f1) ++ vput (zigN x.f2) ++ vput (zigN x.f3)).length ≤ 1000000 := by
      have hle := congrArg List.length (e.symm.trans he)
      rw [List.length_append] at hle
      clear hr hb ih
      omega
    have j4 := l4
    simp only [List.length_append] at j4
    refine Ev.step (f := fun k => (lysimeterref4_Put.f k x.f0).bind fun t227 => (if acc.length + t227.length < 140737488355328 then ((some (acc ++ t227 : List Int)).bind fun y230 => ((lysimeterref4_Put.f k x.f1).bind fun t233 => (if y230.length + t233.length < 140737488355328 then ((some (y230 ++ t233 : List Int)).bind fun y236 => ((lysimeterref4_Signed.f k x.f2).bind fun t239 => (if y236.length + t239.length < 140737488355328 then ((some (y236 ++ t239 : List Int)).bind fun y242 => ((lysimeterref4_Signed.f k x.f3).bind fun t245 => (if y242.length + t245.length < 140737488355328 then (lysimeterref16_Manifest.l0 k (y242 ++ t245) ((i + 1 : Nat) : Int) b nx lg lw) else (none)))) else (none)))) else (none)))) else (none))) (fun k => ?_) ?_
    · simp only [lysimeterref16_Manifest.l0]
      rw [if_pos (by omega), if_pos (by omega), rdT_nat hlt, ← hxe, wi1 hlt (by omega)]
    · clear hr hb
      refine Ev.bind (refput_ev x.f0) (ev_if_pos (by omega) (ev_some_bind (Ev.bind (refput_ev x.f1) (ev_if_pos (by simp only [List.length_append]; omega) (ev_some_bind (Ev.bind (refsigned_ev (by omega) (by omega)) (ev_if_pos (by simp only [List.length_append]; omega) (ev_some_bind (Ev.bind (refsigned_ev (by omega) (by omega)) (ev_if_pos (by simp only [List.length_append]; omega) ?_))))))))))
      exact ih (i + 1) _ (by omega) (e.symm.trans he)
theorem rman_ev {b : List S114} {nx lg lw : Int} (hn : b.length ≤ 140737488355328) : Ev (fun k => lysimeterref16_Manifest.f k b nx lg lw) (packV b nx lg lw) := by
  unfold packV lysimeterref16_Manifest.f
  refine Ev.bind (rchk_ev hn) ?_
  by_cases c : chk b nx lg lw = 0
  · rw [if_pos c]
    refine ev_if_pos c ?_
    have hb := bodyB_len c
    have hr := bodyB_range b nx lg lw
    obtain ⟨h1, h2, h3, h4, h5⟩ := chk_ok c
    have e : [76, 89, 83, 77] ++ vput (u64N nx) ++ vput (u64N lg) ++ vput (zigN lw) ++ vput (u64N (b.length : Int)) ++ rowsB (b.drop 0) = bodyB b nx lg lw := by rw [List.drop_zero]; unfold bodyB; simp only [List.append_assoc]
    have j := hb
    rw [← e] at j
    simp only [List.length_append, List.length_cons, List.length_nil] at j
    refine ev_some_bind (Ev.bind (refput_ev nx) (ev_if_pos (by simp only [List.length_cons, List.length_nil]; omega) (ev_some_bind (Ev.bind (refput_ev lg) (ev_if_pos (by simp only [List.length_append, List.length_cons, List.length_nil]; omega) (ev_some_bind (Ev.bind (refsigned_ev (by omega) (by omega)) (ev_if_pos (by simp only [List.length_append, List.length_cons, List.length_nil]; omega) (ev_some_bind (Ev.bind (refput_ev (b.length : Int)) (ev_if_pos (by simp only [List.length_append, List.length_cons, List.length_nil]; omega) ?_)))))))))))
    exact rman_l0 h5 h1 hr (by omega) b.length 0 _ (by omega) e
  · rw [if_neg c]
    exact ev_if_neg c (Ev.now _)
/-! ### what was packed is read again -/
theorem nx_ev {α β : Type} {x : Nat → Option (Option α)} {z : α} {bad r : β} {f : Nat → α → Option β} (h : Ev x (some z)) (hf : Ev (fun k => f k z) r) : Ev (fun k => manifest_Unpack.nx (x k) bad (f k)) r := by
  unfold manifest_Unpack.nx
  exact Ev.bind h hf
theorem unum_ev {a : Int} (h0 : -9223372036854775808 ≤ a) (h1 : a ≤ 9223372036854775807) {rest : List Int} (hr : ∀ x ∈ rest, 0 ≤ x ∧ x ≤ 255) (hn : rest.length ≤ 1000000) : Ev (fun k => manifest_Unpack.num k (vput (u64N a) ++ rest)) (some (a, rest)) := by
  have hl := vput_len10 (u64N_lt a)
  have g := get_ev _ (app_range (vrange (u64N a)) hr) (by rw [List.length_append]; clear hr; omega)
  rw [vget_vput (u64N_lt a), show wrap64 ((u64N a : Nat) : Int) = a from by clear hr hl g; unfold u64N wrap64; omega] at g
  unfold manifest_Unpack.num manifest_Unpack.get
  refine Ev.bind g (ev_if_pos rfl (ev_if_pos ⟨by simp, by show ((vput (u64N a)).length : Int) ≤ _; rw [List.length_append]; clear hr g; omega⟩ ?_))
  rw [Int.toNat_natCast, List.drop_left]
  exact Ev.now _
theorem usgn_ev {a : Int} (h0 : -9223372036854775808 ≤ a) (h1 : a ≤ 9223372036854775807) {rest : List Int} (hr : ∀ x ∈ rest, 0 ≤ x ∧ x ≤ 255) (hn : rest.length ≤ 1000000) : Ev (fun k => manifest_Unpack.sgn k (vput (zigN a) ++ rest)) (some (a, rest)) := by
  have hl := vput_len10 (zigN_lt h0 h1)
  have g := getsigned_ev _ (app_range (vrange (zigN a)) hr) (by rw [List.length_append]; clear hr; omega)
  rw [vget_vput (zigN_lt h0 h1), show vsigned (wrap64 ((zigN a : Nat) : Int), ((vput (zigN a)).length : Int), 0) = (a, ((vput (zigN a)).length : Int), 0) from by unfold vsigned; rw [if_pos rfl]; simp only [zag_zig h0 h1]] at g
  unfold manifest_Unpack.sgn manifest_Unpack.get
  refine Ev.bind g (ev_if_pos rfl (ev_if_pos ⟨by simp, by show ((vput (zigN a)).length : Int) ≤ _; rw [List.length_append]; clear hr g; omega⟩ ?_))
  rw [Int.toNat_natCast, List.drop_left]
  exact Ev.now _
theorem lp_ev : ∀ (b acc : List S114) (rest : List Int), (∀ x ∈ b, okR x) → (∀ x ∈ rest, 0 ≤ x ∧ x ≤ 255) → rest.length + 40 * b.length ≤ 1000000 → Ev (fun k => manifest_Unpack.lp k b.length (rowsB b ++ rest) acc) (some (acc ++ b))
  | [], acc, rest, _, _, _ => by
    rw [List.append_nil]
    exact Ev.now _
  | x :: b, acc, rest, h, hr, hn => by
    have hx := h x List.mem_cons_self
    have h0 := hx.h0
    have h1 := hx.h1
    have h2 := hx.h2
    have h3 := hx.h3
    have ht := fun y hy => h y (List.mem_cons_of_mem x hy)
    have hl := rowsB_len ht
    rw [List.length_cons] at hn
    have r3 := app_range (rowsB_range b) hr
    have r2 := app_range (vrange (zigN x.f3)) r3
    have r1 := app_range (vrange (zigN x.f2)) r2
    have r0 := app_range (vrange (u64N x.f1)) r1
    have a1 := vput_len10 (u64N_lt x.f1)
    have a2 := vput_len10 (zigN_lt (n := x.f2) (by omega) (by omega))
    have a3 := vput_len10 (zigN_lt (n := x.f3) (by omega) (by omega))
    have e : rowsB (x :: b) ++ rest = vput (u64N x.f0) ++ (vput (u64N x.f1) ++ (vput (zigN x.f2) ++ (vput (zigN x.f3) ++ (rowsB b ++ rest)))) := by
      show (rowB x ++ rowsB b) ++ rest = _
      unfold rowB
      simp only [List.append_assoc]
    rw [e]
    have n3 : (rowsB b ++ rest).length ≤ 999960 := by rw [List.length_append]; clear hr r0 r1 r2 r3 h ht; omega
    have n2 : (vput (zigN x.f3) ++ (rowsB b ++ rest)).length ≤ 999970 := by rw [List.length_append]; clear hr r0 r1 r2 r3 h ht; omega
    have n1 : (vput (zigN x.f2) ++ (vput (zigN x.f3) ++ (rowsB b ++ rest))).length ≤ 999980 := by rw [List.length_append]; clear hr r0 r1 r2 r3 h ht; omega
    have n0 : (vput (u64N x.f1) ++ (vput (zigN x.f2) ++ (vput (zigN x.f3) ++ (rowsB b ++ rest)))).length ≤ 999990 := by rw [List.length_append]; clear hr r0 r1 r2 r3 h ht; omega
    have ih := lp_ev b (acc ++ [x]) rest ht hr (by clear hr r0 r1 r2 r3 h ht; omega)
    rw [List.append_assoc, List.singleton_append] at ih
    have hn2 := fun {m : Nat} (hm : m ≤ 999990) => (show m ≤ 1000000 by omega)
    show Ev (fun k => manifest_Unpack.nx (manifest_Unpack.num k _) none fun x0 => manifest_Unpack.nx (manifest_Unpack.num k x0.2) none fun x1 => manifest_Unpack.nx (manifest_Unpack.sgn k x1.2) none fun x2 => manifest_Unpack.nx (manifest_Unpack.sgn k x2.2) none fun x3 => manifest_Unpack.lp k b.length x3.2 (acc ++ [⟨x0.1, x1.1, x2.1, x3.1⟩])) _
    exact nx_ev (unum_ev (by omega) (by omega) r0 (hn2 n0)) (nx_ev (unum_ev (by omega) (by omega) r1 (hn2 (by omega))) (nx_ev (usgn_ev (by omega) (by omega) r2 (hn2 (by omega))) (nx_ev (usgn_ev (by omega) (by omega) r3 (hn2 (by omega))) ih)))
theorem beq_ev (l : List Int) : bytes_Equal.f l l = some true := by
  unfold bytes_Equal.f
  rw [beq_self_eq_true]
theorem pfx_ev {l : List Int} (h : l.take 4 = [76, 89, 83, 77]) : bytes_HasPrefix.f l [76, 89, 83, 77] = some true := by
  have hl : 4 ≤ l.length := by
    have := congrArg List.length h
    rw [List.length_take] at this
    simp only [List.length_cons, List.length_nil] at this
    omega
  unfold bytes_HasPrefix.f
  simp only [List.length_cons, List.length_nil, Nat.zero_add, Nat.reduceAdd]
  rw [if_pos (by omega), if_pos (by omega), if_pos (by omega)]
  rw [show ((4 : Nat) : Int).toNat = 4 from rfl, h, beq_ev]
  rfl
theorem unpack_packed {b : List S114} {nx lg lw : Int} (c : chk b nx lg lw = 0) : Ev (fun k => manifest_Unpack.f k (sealB (bodyB b nx lg lw))) (b, nx, lg, lw, 0) := by
  have hb := bodyB_len c
  have hR := bodyB_range b nx lg lw
  obtain ⟨h1, h2, h3, h4, h5⟩ := chk_ok c
  obtain ⟨tail, htl⟩ : ∃ t, t = fourB ((sumL (bodyB b nx lg lw) : Nat) : Int) := ⟨_, rfl⟩
  have ht : ∀ x ∈ tail, 0 ≤ x ∧ x ≤ 255 := by rw [htl]; exact fourB_range _
  have hln : tail.length = 4 := by rw [htl]; rfl
  have e : sealB (bodyB b nx lg lw) = [76, 89, 83, 77] ++ (vput (u64N nx) ++ (vput (u64N lg) ++ (vput (zigN lw) ++ (vput (u64N (b.length : Int)) ++ (rowsB b ++ tail))))) := by
    unfold sealB
    rw [← htl]
    unfold bodyB
    simp only [List.append_assoc]
  have hp := pack_ev (b := b) (nx := nx) (lg := lg) (lw := lw) (by omega)
  unfold packV at hp
  rw [if_pos c] at hp
  have hlen : (sealB (bodyB b nx lg lw)).length = (bodyB b nx lg lw).length + 4 := sealB_len _
  obtain ⟨P, hP⟩ : ∃ P, P = sealB (bodyB b nx lg lw) := ⟨_, rfl⟩
  rw [← hP] at e hp hlen ⊢
  have a0 := vput_len10 (u64N_lt nx)
  have a1 := vput_len10 (u64N_lt lg)
  have a2 := vput_len10 (zigN_lt (n := lw) (by omega) (by omega))
  have a3 := vput_len10 (u64N_lt (b.length : Int))
  have a4 := rowsB_len h5
  clear hR hb htl hP
  have r4 := app_range (rowsB_range b) ht
  have r3 := app_range (vrange (u64N (b.length : Int))) r4
  have r2 := app_range (vrange (zigN lw)) r3
  have r1 := app_range (vrange (u64N lg)) r2
  have n4 : (rowsB b ++ tail).length ≤ 9000 := by rw [List.length_append]; clear ht r1 r2 r3 r4 h5; omega
  have n3 : (vput (u64N (b.length : Int)) ++ (rowsB b ++ tail)).length ≤ 9010 := by rw [List.length_append]; clear ht r1 r2 r3 r4 h5; omega
  have n2 : (vput (zigN lw) ++ (vput (u64N (b.length : Int)) ++ (rowsB b ++ tail))).length ≤ 9020 := by rw [List.length_append]; clear ht r1 r2 r3 r4 h5; omega
  have n1 : (vput (u64N lg) ++ (vput (zigN lw) ++ (vput (u64N (b.length : Int)) ++ (rowsB b ++ tail)))).length ≤ 9030 := by rw [List.length_append]; clear ht r1 r2 r3 r4 h5; omega
  have htk : P.take 4 = [76, 89, 83, 77] := by rw [e]; rfl
  have hdr : P.drop 4 = vput (u64N nx) ++ (vput (u64N lg) ++ (vput (zigN lw) ++ (vput (u64N (b.length : Int)) ++ (rowsB b ++ tail)))) := by rw [e]; rfl
  unfold manifest_Unpack.f
  refine ev_one_bind (pfx_ev htk) (ev_if_pos rfl (ev_if_pos (by omega) ?_))
  rw [hdr]
  refine nx_ev (unum_ev (by omega) (by omega) r1 (by omega)) (nx_ev (unum_ev (by omega) (by omega) r2 (by omega)) (nx_ev (usgn_ev (by omega) (by omega) r3 (by omega)) (nx_ev (unum_ev (by omega) (by omega) r4 (by omega)) (ev_if_neg (by omega) ?_))))
  refine nx_ev (z := b) ?_ (Ev.bind hp (ev_if_pos rfl (ev_one_bind (beq_ev P) (ev_if_pos rfl (Ev.now _)))))
  have := lp_ev b [] tail h5 ht (by clear ht r1 r2 r3 r4 h5; omega)
  rw [List.nil_append] at this
  rw [Int.toNat_natCast]
  exact this
theorem alive17_ev : Ev (fun k => lysimeterlaw17_alive.f k) true := Ev.of lysimeterlaw17_alive.mono (k := 60) (by decide +kernel)
/-! ### what is read is no more than what is there -/
def okL (l : List Int) : Prop := (∀ x ∈ l, 0 ≤ x ∧ x ≤ 255) ∧ l.length ≤ 1000000
theorem okL.drop {l : List Int} (h : okL l) (n : Nat) : okL (l.drop n) := ⟨fun x hx => h.1 x (List.mem_of_mem_drop hx), by rw [List.length_drop]; exact Nat.le_trans (Nat.sub_le _ _) h.2⟩
theorem vgetA_le : ∀ (l : List Int) (i u v m : Nat), vgetA l i u = some (v, m) → m ≤ i + l.length
  | [], i, u, v, m, h => by simp [vgetA] at h
  | x :: l, i, u, v, m, h => by
    simp only [vgetA] at h
    rw [List.length_cons]
    split at h
    · cases h
    split at h
    · have := vgetA_le l _ _ _ _ h
      omega
    split at h
    · cases h
    · simp only [Option.some.injEq, Prod.mk.injEq] at h
      omega
/-- what Unpack ends with -/
def Good (l : List Int) (r : List S114 × Int × Int × Int × Int) : Prop :=
  r = ([], 0, 0, 0, 5) ∨ ∃ b nx lg lw, chk b nx lg lw = 0 ∧ l = sealB (bodyB b nx lg lw) ∧ r = (b, nx, lg, lw, 0)
def Ends {α : Type} (x : Nat → Option α) (P : α → Prop) : Prop := ∃ z, Ev x z ∧ P z
theorem Ends.ev {α : Type} {x : Nat → Option α} {z : α} {P : α → Prop} (h : Ev x z) (hp : P z) : Ends x P := ⟨z, h, hp⟩
theorem Ends.bind {α β : Type} {x : Nat → Option α} {f : Nat → α → Option β} {P : α → Prop} {Q : β → Prop} (h : Ends x P) (hf : ∀ z, P z → Ends (fun k => f k z) Q) : Ends (fun k => (x k).bind (f k)) Q := by
  obtain ⟨z, hz, hp⟩ := h
  obtain ⟨y, hy, hq⟩ := hf z hp
  exact ⟨y, Ev.bind hz hy, hq⟩
theorem Ends.pos {β : Type} {c : Prop} [Decidable c] {x y : Nat → Option β} {Q : β → Prop} (hc : c) (h : Ends x Q) : Ends (fun k => if c then x k else y k) Q := by
  obtain ⟨z, hz, hq⟩ := h
  exact ⟨z, ev_if_pos hc hz, hq⟩
theorem Ends.neg {β : Type} {c : Prop} [Decidable c] {x y : Nat → Option β} {Q : β → Prop} (hc : ¬ c) (h : Ends y Q) : Ends (fun k => if c then x k else y k) Q := by
  obtain ⟨z, hz, hq⟩ := h
  exact ⟨z, ev_if_neg hc hz, hq⟩
def okO {α : Type} (f : α → List Int) (o : Option α) : Prop := ∀ z, o = some z → okL (f z)
theorem nx_ends {α β : Type} {x : Nat → Option (Option α)} {bad : β} {f : Nat → α → Option β} {P : α → Prop} {Q : β → Prop} (h : Ends x (fun o => ∀ z, o = some z → P z)) (hb : Q bad) (hf : ∀ z, P z → Ends (fun k => f k z) Q) : Ends (fun k => manifest_Unpack.nx (x k) bad (f k)) Q := by
  unfold manifest_Unpack.nx
  refine h.bind fun o ho => ?_
  cases o with
  | none => exact Ends.ev (Ev.now _) hb
  | some z => exact hf z (ho z rfl)
theorem unum_ends {l : List Int} (h : okL l) : Ends (fun k => manifest_Unpack.num k l) (okO Prod.snd) := by
  have g := get_ev l h.1 (by have := h.2; omega)
  unfold manifest_Unpack.num manifest_Unpack.get
  unfold vget at g
  cases hv : vgetA l 0 0 with
  | none =>
    rw [hv] at g
    exact ⟨none, Ev.bind g (ev_if_neg (by decide) (Ev.now _)), fun z hz => by cases hz⟩
  | some p =>
    obtain ⟨v, m⟩ := p
    rw [hv] at g
    have := vgetA_le _ _ _ _ _ hv
    refine ⟨some (wrap64 (v : Int), l.drop m), Ev.bind g (ev_if_pos rfl (ev_if_pos ⟨by simp only [vres]; omega, by simp only [vres]; omega⟩ (ev_eq (Ev.now _) ?_))), ?_⟩
    · simp only [vres, Int.toNat_natCast]
    · intro z hz
      injection hz with hz
      subst hz
      exact h.drop m
theorem usgn_ends {l : List Int} (h : okL l) : Ends (fun k => manifest_Unpack.sgn k l) (okO Prod.snd) := by
  have g := getsigned_ev l h.1 (by have := h.2; omega)
  unfold manifest_Unpack.sgn manifest_Unpack.get
  unfold vget at g
  cases hv : vgetA l 0 0 with
  | none =>
    rw [hv] at g
    exact ⟨none, Ev.bind g (ev_if_neg (by decide) (Ev.now _)), fun z hz => by cases hz⟩
  | some p =>
    obtain ⟨v, m⟩ := p
    rw [hv, show vsigned (vres (some (v, m))) = (zagZ (wrap64 (v : Int)), (m : Int), 0) from rfl] at g
    have := vgetA_le _ _ _ _ _ hv
    refine ⟨some (zagZ (wrap64 (v : Int)), l.drop m), Ev.bind g (ev_if_pos rfl (ev_if_pos ⟨by dsimp only; omega, by dsimp only; omega⟩ (ev_eq (Ev.now _) ?_))), ?_⟩
    · simp only [Int.toNat_natCast]
    · intro z hz
      injection hz with hz
      subst hz
      exact h.drop m
theorem ulp_ends : ∀ (n : Nat) (l : List Int) (acc : List S114), okL l → Ends (fun k => manifest_Unpack.lp k n l acc) (fun o => ∀ z, o = some z → z.length ≤ acc.length + n)
  | 0, l, acc, h => Ends.ev (Ev.now _) (fun z hz => by injection hz with hz; subst hz; omega)
  | n + 1, l, acc, h => by
    show Ends (fun k => manifest_Unpack.nx (manifest_Unpack.num k _) none fun x0 => manifest_Unpack.nx (manifest_Unpack.num k x0.2) none fun x1 => manifest_Unpack.nx (manifest_Unpack.sgn k x1.2) none fun x2 => manifest_Unpack.nx (manifest_Unpack.sgn k x2.2) none fun x3 => manifest_Unpack.lp k n x3.2 (acc ++ [⟨x0.1, x1.1, x2.1, x3.1⟩])) _
    have hb : ∀ z : List S114, (none : Option (List S114)) = some z → z.length ≤ acc.length + (n + 1) := fun z hz => by cases hz
    refine nx_ends (P := fun z : Int × List Int => okL z.2) (unum_ends h) hb fun x0 h0 => nx_ends (P := fun z : Int × List Int => okL z.2) (unum_ends h0) hb fun x1 h1 => nx_ends (P := fun z : Int × List Int => okL z.2) (usgn_ends h1) hb fun x2 h2 => nx_ends (P := fun z : Int × List Int => okL z.2) (usgn_ends h2) hb fun x3 h3 => ?_
    obtain ⟨z, hz, hq⟩ := ulp_ends n x3.2 (acc ++ [⟨x0.1, x1.1, x2.1, x3.1⟩]) h3
    refine ⟨z, hz, fun y hy => ?_⟩
    have := hq y hy
    rw [List.length_append, List.length_singleton] at this
    omega
theorem good_bad (l : List Int) : Good l ([], 0, 0, 0, 5) := .inl rfl
theorem pfx_any {l : List Int} (h : okL l) : ∃ q : Bool, bytes_HasPrefix.f l [76, 89, 83, 77] = some q ∧ (q = true → 4 ≤ l.length) := by
  unfold bytes_HasPrefix.f
  simp only [List.length_cons, List.length_nil, Nat.zero_add, Nat.reduceAdd]
  by_cases c : 4 ≤ l.length
  · rw [if_pos (by omega), if_pos (by omega), if_pos (by omega)]
    unfold bytes_Equal.f
    exact ⟨_, rfl, fun _ => c⟩
  · rw [if_neg (by omega)]
    exact ⟨false, rfl, fun h => by cases h⟩
theorem strs_eq {a b : List Int} (ha : ∀ x ∈ a, 0 ≤ x ∧ x ≤ 255) (hb : ∀ x ∈ b, 0 ≤ x ∧ x ≤ 255) (h : (strOfNums a).toList = (strOfNums b).toList) : a = b := by
  rw [ByteArray.toList_eq, ByteArray.toList_eq, strOfNums_data, strOfNums_data] at h
  have back : ∀ l : List Int, (∀ x ∈ l, 0 ≤ x ∧ x ≤ 255) → (l.map fun n => UInt8.ofNat n.toNat).map (fun u => (u.toNat : Int)) = l := by
    intro l hl
    rw [List.map_map]
    refine (List.map_congr_left (g := id) fun x hx => ?_).trans (List.map_id l)
    have := hl x hx
    simp
    omega
  rw [← back a ha, ← back b hb, h]
theorem unpack_ends {l : List Int} (h : okL l) : Ends (fun k => manifest_Unpack.f k l) (Good l) := by
  unfold manifest_Unpack.f
  have hb := good_bad l
  obtain ⟨q, hq, hq4⟩ := pfx_any h
  refine (Ends.ev (P := fun z => z = q) (by rw [hq]; exact Ev.now _) rfl).bind ?_
  intro z hz
  subst z
  cases hqq : q with
  | false => exact Ends.neg (by decide) (Ends.ev (Ev.now _) hb)
  | true =>
    refine Ends.pos rfl (Ends.pos (hq4 hqq) ?_)
    refine nx_ends (P := fun z : Int × List Int => okL z.2) (unum_ends (h.drop 4)) hb fun x0 h0 => nx_ends (P := fun z : Int × List Int => okL z.2) (unum_ends h0) hb fun x1 h1 => nx_ends (P := fun z : Int × List Int => okL z.2) (usgn_ends h1) hb fun x2 h2 => nx_ends (P := fun z : Int × List Int => okL z.2) (unum_ends h2) hb fun x3 h3 => ?_
    by_cases c : x3.1 < 0 ∨ x3.1 > 200
    · exact Ends.pos c (Ends.ev (Ev.now _) hb)
    refine Ends.neg c (nx_ends (P := fun z => z.length ≤ x3.1.toNat) ?_ hb fun bs hbs => ?_)
    · obtain ⟨z, hz, hq⟩ := ulp_ends x3.1.toNat x3.2 [] h3
      exact ⟨z, hz, fun y hy => by have := hq y hy; rw [List.length_nil] at this; omega⟩
    · refine (Ends.ev (P := fun z => z = packV bs x0.1 x1.1 x2.1) (pack_ev (by omega)) rfl).bind ?_
      rintro _ rfl
      by_cases e : chk bs x0.1 x1.1 x2.1 = 0
      · rw [show packV bs x0.1 x1.1 x2.1 = (sealB (bodyB bs x0.1 x1.1 x2.1), 0) from if_pos e]
        refine Ends.pos rfl ?_
        unfold bytes_Equal.f
        by_cases g : (strOfNums (sealB (bodyB bs x0.1 x1.1 x2.1))).toList = (strOfNums l).toList
        · exact Ends.ev (ev_one_bind rfl (ev_if_pos (by rw [beq_iff_eq]; exact g) (Ev.now _))) (.inr ⟨_, _, _, _, e, (strs_eq (sealB_range (bodyB_range _ _ _ _)) h.1 g).symm, rfl⟩)
        · exact Ends.ev (ev_one_bind rfl (ev_if_neg (by rw [beq_iff_eq]; exact g) (Ev.now _))) hb
      · rw [show packV bs x0.1 x1.1 x2.1 = ([], chk bs x0.1 x1.1 x2.1) from if_neg e]
        exact Ends.neg e (Ends.ev (Ev.now _) hb)
/-! ### the reference's reader -/
theorem rnum_ends {s : List Int × Bool} (h : okL s.1) : Ends (fun k => lysimeterref16_ReadManifest.num k s) (fun x => okL x.2.1) := by
  have g := refget_ev s.1 h.1 (by have := h.2; omega)
  unfold lysimeterref16_ReadManifest.num
  unfold vget at g
  cases hv : vgetA s.1 0 0 with
  | none =>
    rw [hv] at g
    exact ⟨_, Ev.bind g (ev_if_neg (by decide) (Ev.now _)), h⟩
  | some p =>
    obtain ⟨v, m⟩ := p
    rw [hv] at g
    have := vgetA_le _ _ _ _ _ hv
    exact ⟨_, Ev.bind g (ev_if_pos rfl (ev_if_pos ⟨by simp only [vres]; omega, by simp only [vres]; omega⟩ (Ev.now _))), h.drop _⟩
theorem rsgn_ends {s : List Int × Bool} (h : okL s.1) : Ends (fun k => lysimeterref16_ReadManifest.sgn k s) (fun x => okL x.2.1) := by
  unfold lysimeterref16_ReadManifest.sgn
  refine (rnum_ends h).bind fun x hx => ?_
  exact Ends.ev (ev_one_bind (refzag_ev _) (Ev.now _)) hx
theorem rlp_ends (n : Int) : ∀ (m i : Nat) (s : List Int × Bool) (acc : List S114), okL s.1 → Ends (fun k => lysimeterref16_ReadManifest.lp k n m i s acc) (fun y => y.1.length ≤ acc.length + m)
  | 0, i, s, acc, h => Ends.ev (Ev.now _) (by dsimp only; omega)
  | m + 1, i, s, acc, h => by
    show Ends (fun k => if (i : Int) < n ∧ s.2 = false then (lysimeterref16_ReadManifest.num k s).bind fun x0 => (lysimeterref16_ReadManifest.num k x0.2).bind fun x1 => (lysimeterref16_ReadManifest.sgn k x1.2).bind fun x2 => (lysimeterref16_ReadManifest.sgn k x2.2).bind fun x3 => lysimeterref16_ReadManifest.lp k n m (i + 1) x3.2 (acc ++ [⟨x0.1, x1.1, x2.1, x3.1⟩]) else some (acc, s)) _
    by_cases c : (i : Int) < n ∧ s.2 = false
    · refine Ends.pos c ((rnum_ends h).bind fun x0 h0 => (rnum_ends h0).bind fun x1 h1 => (rsgn_ends h1).bind fun x2 h2 => (rsgn_ends h2).bind fun x3 h3 => ?_)
      obtain ⟨z, hz, hq⟩ := rlp_ends n m (i + 1) x3.2 (acc ++ [⟨x0.1, x1.1, x2.1, x3.1⟩]) h3
      refine ⟨z, hz, ?_⟩
      rw [List.length_append, List.length_singleton] at hq
      omega
    · exact Ends.neg c (Ends.ev (Ev.now _) (by dsimp only; omega))
theorem read_ends {l : List Int} (h : okL l) : Ends (fun k => lysimeterref16_ReadManifest.f k l) (Good l) := by
  unfold lysimeterref16_ReadManifest.f
  have hb := good_bad l
  by_cases c : l.length < 8 ∨ (strOfNums (l.take 4)).toList ≠ ([76, 89, 83, 77] : List UInt8)
  · exact Ends.pos c (Ends.ev (Ev.now _) hb)
  refine Ends.neg c ?_
  have h4 : okL ((l.take (l.length - 4)).drop 4) := ⟨fun x hx => h.1 x (List.mem_of_mem_take (List.mem_of_mem_drop hx)), by rw [List.length_drop, List.length_take]; have := h.2; omega⟩
  refine (rnum_ends (s := ((l.take (l.length - 4)).drop 4, false)) h4).bind fun x0 h0 => (rnum_ends h0).bind fun x1 h1 => (rsgn_ends h1).bind fun x2 h2 => (rnum_ends h2).bind fun x3 h3 => (rlp_ends x3.1 201 0 x3.2 [] h3).bind fun y hy => ?_
  rw [List.length_nil] at hy
  by_cases c2 : y.2.2 = true
  · exact Ends.pos c2 (Ends.ev (Ev.now _) hb)
  refine Ends.neg c2 ((Ends.ev (P := fun z => z = packV y.1 x0.1 x1.1 x2.1) (rman_ev (by omega)) rfl).bind ?_)
  rintro _ rfl
  by_cases e : chk y.1 x0.1 x1.1 x2.1 = 0
  · rw [show packV y.1 x0.1 x1.1 x2.1 = (sealB (bodyB y.1 x0.1 x1.1 x2.1), 0) from if_pos e]
    by_cases g : (strOfNums (sealB (bodyB y.1 x0.1 x1.1 x2.1))).toList = (strOfNums l).toList
    · exact Ends.ev (ev_if_pos ⟨rfl, g⟩ (Ev.now _)) (.inr ⟨_, _, _, _, e, (strs_eq (sealB_range (bodyB_range _ _ _ _)) h.1 g).symm, rfl⟩)
    · exact Ends.ev (ev_if_neg (fun z => g z.2) (Ev.now _)) hb
  · rw [show packV y.1 x0.1 x1.1 x2.1 = ([], chk y.1 x0.1 x1.1 x2.1) from if_neg e]
    exact Ends.ev (ev_if_neg (fun z => e z.1) (Ev.now _)) hb
theorem rnum_ev {a : Int} (h0 : -9223372036854775808 ≤ a) (h1 : a ≤ 9223372036854775807) {rest : List Int} (q : Bool) (hr : ∀ x ∈ rest, 0 ≤ x ∧ x ≤ 255) (hn : rest.length ≤ 1000000) : Ev (fun k => lysimeterref16_ReadManifest.num k (vput (u64N a) ++ rest, q)) (a, (rest, q)) := by
  have hl := vput_len10 (u64N_lt a)
  have g := refget_ev _ (app_range (vrange (u64N a)) hr) (by rw [List.length_append]; clear hr; omega)
  rw [vget_vput (u64N_lt a), show wrap64 ((u64N a : Nat) : Int) = a from by clear hr hl g; unfold u64N wrap64; omega] at g
  unfold lysimeterref16_ReadManifest.num
  refine Ev.bind g (ev_if_pos rfl (ev_if_pos ⟨by simp, by show ((vput (u64N a)).length : Int) ≤ _; rw [List.length_append]; clear hr g; omega⟩ ?_))
  rw [Int.toNat_natCast, List.drop_left]
  exact Ev.now _
theorem rsgn_ev {a : Int} (h0 : -9223372036854775808 ≤ a) (h1 : a ≤ 9223372036854775807) {rest : List Int} (q : Bool) (hr : ∀ x ∈ rest, 0 ≤ x ∧ x ≤ 255) (hn : rest.length ≤ 1000000) : Ev (fun k => lysimeterref16_ReadManifest.sgn k (vput (zigN a) ++ rest, q)) (a, (rest, q)) := by
  have hl := vput_len10 (zigN_lt h0 h1)
  have g := refget_ev _ (app_range (vrange (zigN a)) hr) (by rw [List.length_append]; clear hr; omega)
  rw [vget_vput (zigN_lt h0 h1)] at g
  unfold lysimeterref16_ReadManifest.sgn lysimeterref16_ReadManifest.num
  refine Ev.bind (Ev.bind g (ev_if_pos rfl (ev_if_pos ⟨by simp, by show ((vput (zigN a)).length : Int) ≤ _; rw [List.length_append]; clear hr g; omega⟩ (Ev.now _)))) (ev_one_bind (refzag_ev _) ?_)
  rw [Int.toNat_natCast, List.drop_left, zag_zig h0 h1]
  exact Ev.now _
theorem rlp_ev (N : Nat) (hN : N ≤ 200) : ∀ (b acc : List S114) (i m : Nat) (rest : List Int), i + b.length = N → i + m = 201 → (∀ x ∈ b, okR x) → (∀ x ∈ rest, 0 ≤ x ∧ x ≤ 255) → rest.length + 40 * b.length ≤ 1000000 → Ev (fun k => lysimeterref16_ReadManifest.lp k (N : Int) m i (rowsB b ++ rest, false) acc) (acc ++ b, (rest, false))
  | [], acc, i, m, rest, hi, hm, _, _, _ => by
    rw [List.append_nil]
    rw [List.length_nil] at hi
    obtain ⟨m, rfl⟩ : ∃ q, m = q + 1 := ⟨m - 1, by omega⟩
    refine Ev.step (f := fun _ => some (acc, (rest, false))) (fun k => ?_) (Ev.now _)
    simp only [lysimeterref16_ReadManifest.lp]
    rw [if_neg (by omega)]
    rfl
  | x :: b, acc, i, m, rest, hi, hm, h, hr, hn => by
    have hx := h x List.mem_cons_self
    have h0 := hx.h0
    have h1 := hx.h1
    have h2 := hx.h2
    have h3 := hx.h3
    have ht := fun y hy => h y (List.mem_cons_of_mem x hy)
    have hl := rowsB_len ht
    rw [List.length_cons] at hn hi
    obtain ⟨m, rfl⟩ : ∃ q, m = q + 1 := ⟨m - 1, by omega⟩
    have r3 := app_range (rowsB_range b) hr
    have r2 := app_range (vrange (zigN x.f3)) r3
    have r1 := app_range (vrange (zigN x.f2)) r2
    have r0 := app_range (vrange (u64N x.f1)) r1
    have a1 := vput_len10 (u64N_lt x.f1)
    have a2 := vput_len10 (zigN_lt (n := x.f2) (by omega) (by omega))
    have a3 := vput_len10 (zigN_lt (n := x.f3) (by omega) (by omega))
    have e : rowsB (x :: b) ++ rest = vput (u64N x.f0) ++ (vput (u64N x.f1) ++ (vput (zigN x.f2) ++ (vput (zigN x.f3) ++ (rowsB b ++ rest)))) := by
      show (rowB x ++ rowsB b) ++ rest = _
      unfold rowB
      simp only [List.append_assoc]
    rw [e]
    have n3 : (rowsB b ++ rest).length ≤ 999960 := by rw [List.length_append]; clear hr r0 r1 r2 r3 h ht; omega
    have n2 : (vput (zigN x.f3) ++ (rowsB b ++ rest)).length ≤ 999970 := by rw [List.length_append]; clear hr r0 r1 r2 r3 h ht; omega
    have n1 : (vput (zigN x.f2) ++ (vput (zigN x.f3) ++ (rowsB b ++ rest))).length ≤ 999980 := by rw [List.length_append]; clear hr r0 r1 r2 r3 h ht; omega
    have n0 : (vput (u64N x.f1) ++ (vput (zigN x.f2) ++ (vput (zigN x.f3) ++ (rowsB b ++ rest)))).length ≤ 999990 := by rw [List.length_append]; clear hr r0 r1 r2 r3 h ht; omega
    have ih := rlp_ev N hN b (acc ++ [x]) (i + 1) m rest (by omega) (by omega) ht hr (by clear hr r0 r1 r2 r3 h ht; omega)
    rw [List.append_assoc, List.singleton_append] at ih
    have hn2 := fun {m : Nat} (hm : m ≤ 999990) => (show m ≤ 1000000 by omega)
    show Ev (fun k => if (i : Int) < (N : Int) ∧ false = false then (lysimeterref16_ReadManifest.num k (_, false)).bind fun x0 => (lysimeterref16_ReadManifest.num k x0.2).bind fun x1 => (lysimeterref16_ReadManifest.sgn k x1.2).bind fun x2 => (lysimeterref16_ReadManifest.sgn k x2.2).bind fun x3 => lysimeterref16_ReadManifest.lp k (N : Int) m (i + 1) x3.2 (acc ++ [⟨x0.1, x1.1, x2.1, x3.1⟩]) else some (acc, (_, false))) _
    refine ev_if_pos ⟨by omega, rfl⟩ ?_
    exact Ev.bind (rnum_ev (by omega) (by omega) false r0 (hn2 n0)) (Ev.bind (rnum_ev (by omega) (by omega) false r1 (hn2 (by omega))) (Ev.bind (rsgn_ev (by omega) (by omega) false r2 (hn2 (by omega))) (Ev.bind (rsgn_ev (by omega) (by omega) false r3 (hn2 (by omega))) ih)))
theorem read_packed {b : List S114} {nx lg lw : Int} (c : chk b nx lg lw = 0) : Ev (fun k => lysimeterref16_ReadManifest.f k (sealB (bodyB b nx lg lw))) (b, nx, lg, lw, 0) := by
  have hb := bodyB_len c
  obtain ⟨h1, h2, h3, h4, h5⟩ := chk_ok c
  have hp := rman_ev (b := b) (nx := nx) (lg := lg) (lw := lw) (by omega)
  unfold packV at hp
  rw [if_pos c] at hp
  have hlen : (sealB (bodyB b nx lg lw)).length = (bodyB b nx lg lw).length + 4 := sealB_len _
  have e : bodyB b nx lg lw = [76, 89, 83, 77] ++ (vput (u64N nx) ++ (vput (u64N lg) ++ (vput (zigN lw) ++ (vput (u64N (b.length : Int)) ++ (rowsB b ++ []))))) := by
    unfold bodyB
    simp only [List.append_assoc, List.append_nil]
  have e4 : (bodyB b nx lg lw).drop 4 = vput (u64N nx) ++ (vput (u64N lg) ++ (vput (zigN lw) ++ (vput (u64N (b.length : Int)) ++ (rowsB b ++ [])))) := by rw [e]; rfl
  have k4 : 4 ≤ (bodyB b nx lg lw).length := by rw [e]; simp
  have t4 : (sealB (bodyB b nx lg lw)).take 4 = [76, 89, 83, 77] := by
    unfold sealB
    rw [List.take_append_of_le_length k4, e]
    rfl
  have tk : (sealB (bodyB b nx lg lw)).take ((sealB (bodyB b nx lg lw)).length - 4) = bodyB b nx lg lw := by
    rw [hlen, Nat.add_sub_cancel]
    unfold sealB
    exact List.take_left' rfl
  have a0 := vput_len10 (u64N_lt nx)
  have a1 := vput_len10 (u64N_lt lg)
  have a2 := vput_len10 (zigN_lt (n := lw) (by omega) (by omega))
  have a3 := vput_len10 (u64N_lt (b.length : Int))
  have a4 := rowsB_len h5
  have ht : ∀ x ∈ ([] : List Int), 0 ≤ x ∧ x ≤ 255 := fun x hx => by cases hx
  have r4 := app_range (rowsB_range b) ht
  have r3 := app_range (vrange (u64N (b.length : Int))) r4
  have r2 := app_range (vrange (zigN lw)) r3
  have r1 := app_range (vrange (u64N lg)) r2
  have n4 : (rowsB b ++ []).length ≤ 9000 := by rw [List.length_append, List.length_nil]; clear ht r1 r2 r3 r4 h5; omega
  have n3 : (vput (u64N (b.length : Int)) ++ (rowsB b ++ [])).length ≤ 9010 := by rw [List.length_append]; clear ht r1 r2 r3 r4 h5; omega
  have n2 : (vput (zigN lw) ++ (vput (u64N (b.length : Int)) ++ (rowsB b ++ []))).length ≤ 9020 := by rw [List.length_append]; clear ht r1 r2 r3 r4 h5; omega
  have n1 : (vput (u64N lg) ++ (vput (zigN lw) ++ (vput (u64N (b.length : Int)) ++ (rowsB b ++ [])))).length ≤ 9030 := by rw [List.length_append]; clear ht r1 r2 r3 r4 h5; omega
  unfold lysimeterref16_ReadManifest.f
  have hc : ¬ ((sealB (bodyB b nx lg lw)).length < 8 ∨ (strOfNums ((sealB (bodyB b nx lg lw)).take 4)).toList ≠ ([76, 89, 83, 77] : List UInt8)) := by
    rintro (hc | hc)
    · omega
    · rw [t4] at hc
      exact hc (by decide +kernel)
  refine ev_if_neg hc ?_
  rw [tk, e4]
  have hlp := rlp_ev b.length h1 b [] 0 201 [] (by omega) rfl h5 ht (by clear ht r1 r2 r3 r4 h5; simp only [List.length_nil]; omega)
  rw [List.nil_append] at hlp
  refine Ev.bind (rnum_ev (by omega) (by omega) false r1 (by omega)) (Ev.bind (rnum_ev (by omega) (by omega) false r2 (by omega)) (Ev.bind (rsgn_ev (by omega) (by omega) false r3 (by omega)) (Ev.bind (rnum_ev (by omega) (by omega) false r4 (by omega)) (Ev.bind hlp (ev_if_neg (fun h => by cases h) (Ev.bind hp (ev_if_pos ⟨rfl, rfl⟩ (Ev.now _))))))))
theorem mr_true (b : List Int) (live x5 : Bool) (hl : live = true) (h : x5 = true) : Ev (fun k => lysimeterlaw17_ManifestReads.j0 k b live x5) true := by
  subst h hl
  refine Ev.step (f := fun _ => some true) (fun k => ?_) (Ev.now _)
  simp only [lysimeterlaw17_ManifestReads.j0, if_true]
theorem ManifestReads : lysimeterlaw17_ManifestReads.Pure := by
  intro b _ _ hb
  refine Ev.rounds (g := fun k => lysimeterlaw17_ManifestReads.f k b) ?_
  unfold lysimeterlaw17_ManifestReads.f
  refine Ev.bind alive17_ev (ev_if_pos rfl ?_)
  by_cases c1 : (b.length : Int) > 5000
  · rw [decide_eq_true c1]
    exact mr_true _ _ _ rfl rfl
  rw [decide_eq_false c1]
  have hok : okL b := ⟨fun x hx => wf_u8 (hb x hx), by clear hb; omega⟩
  have hbl : b.length ≤ 5000 := by clear hb hok; omega
  clear hb c1
  refine Ev.step (f := fun k => (if ([] : List Int).length + b.length < 140737488355328 then ((manifest_Unpack.f k (([] : List Int) ++ b)).bind fun bt264 => ((lysimeterref16_ReadManifest.f k b).bind fun bt272 => ((lysimeterlaw17_num.f bt264.2.2.2.2).bind fun t280 => (if t280 = bt272.2.2.2.2 then ((lysimeterref16_SameManifest.f k bt264.1 bt264.2.1 bt264.2.2.1 bt264.2.2.2.1 bt272.1 bt272.2.1 bt272.2.2.1 bt272.2.2.2.1).bind fun t281 => (some t281)) else (some false))))) else (none))) (fun k => ?_) ?_
  · simp only [lysimeterlaw17_ManifestReads.j0]
    rw [if_neg (by decide)]
  refine ev_if_pos (by rw [List.length_nil]; omega) ?_
  rw [List.nil_append]
  obtain ⟨r1, e1, g1⟩ := unpack_ends hok
  obtain ⟨r2, e2, g2⟩ := read_ends hok
  have same : r1 = r2 ∧ r1.1.length ≤ 2000 := by
    rcases g1 with rfl | ⟨p, nx, lg, lw, hc, hl, rfl⟩
    · rcases g2 with rfl | ⟨p, nx, lg, lw, hc, hl, rfl⟩
      · exact ⟨rfl, Nat.zero_le _⟩
      · have := ev_uniq e1 (by rw [hl]; exact unpack_packed hc)
        exact ⟨this, Nat.zero_le _⟩
    · have := ev_uniq e2 (by rw [hl]; exact read_packed hc)
      obtain ⟨h1, _⟩ := chk_ok hc
      exact ⟨this.symm, by show p.length ≤ 2000; omega⟩
  obtain ⟨rfl, hlen⟩ := same
  exact Ev.bind e1 (Ev.bind e2 (ev_one_bind (a := r1.2.2.2.2) rfl (ev_if_pos rfl (Ev.bind (sm_self hlen) (Ev.now _)))))

end Go.Proofs.Ytjilnpbgclnecac.Pure
