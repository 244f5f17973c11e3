/- A number below 2 to the 7k has at most k bytes in the program's varint.Put, and no longer bytes, and no fewer, are taken for it by varint.Get (statement VarintSizes); no condition. -/
import Derived.Test.YtjilnpbgclnecaaPVarintSizesx1
import Derived.Test.YtjilnpbgclnecaaXPure
set_option linter.unusedVariables false
set_option linter.unusedSimpArgs false
namespace Go.Proofs.Ytjilnpbgclnecaa.Pure
open Go Go.RowKit Go.Proofs.Ytjilnpbgclnecaa.PVarintSizes Go.Proofs.Ytjilnpbgclnecaa.XP Go.Proofs.YtjilnpbgclnecaaW.PrintWords Go.Proofs.YtjilnpbgclnecaaW.PrintLast Go.Proofs.YtjilnpbgclnecaaW.PrintMore

/-! ### numbers in few bytes -/
def vput (u : Nat) : List Int := if u < 128 then [(u : Int)] else ((u % 128 + 128 : Nat) : Int) :: vput (u / 128)
termination_by u
decreasing_by omega
theorem vput_small {u : Nat} (h : u < 128) : vput u = [(u : Int)] := by rw [vput, if_pos h]
theorem vput_big {u : Nat} (h : ¬ u < 128) : vput u = ((u % 128 + 128 : Nat) : Int) :: vput (u / 128) := by rw [vput, if_neg h]
theorem vput_len (n : Nat) : ∀ u, u < 2 ^ (7 * n) → 0 < n → 1 ≤ (vput u).length ∧ (vput u).length ≤ n := by
  induction n with
  | zero => intro u _ h; exact absurd h (by omega)
  | succ n ih =>
    intro u hu _
    by_cases h : u < 128
    · rw [vput_small h]; simp
    · rw [vput_big h]
      have hp : (2 : Nat) ^ (7 * (n + 1)) = 128 * 2 ^ (7 * n) := by rw [Nat.mul_add, Nat.pow_add]; omega
      have hn : 0 < n := by
        rcases Nat.eq_zero_or_pos n with h0 | h0
        · subst h0; simp at hp; omega
        · exact h0
      have := ih (u / 128) (by omega) hn
      simp only [List.length_cons]
      omega
theorem vput_len10 {u : Nat} (h : u < 18446744073709551616) : 1 ≤ (vput u).length ∧ (vput u).length ≤ 10 := vput_len 10 u (by omega) (by decide)
theorem vput_range (n : Nat) : ∀ u, u ≤ n → ∀ x ∈ vput u, 0 ≤ x ∧ x ≤ 255 := by
  induction n with
  | zero =>
    intro u hu x hx
    rw [vput_small (by omega)] at hx
    simp at hx
    omega
  | succ n ih =>
    intro u hu x hx
    by_cases h : u < 128
    · rw [vput_small h] at hx; simp at hx; omega
    · rw [vput_big h] at hx
      rcases List.mem_cons.1 hx with rfl | hx
      · omega
      · exact ih (u / 128) (by omega) x hx
theorem put_l0 (n : Nat) : ∀ (u : Nat) (acc : List Int), u ≤ n → acc.length + (vput u).length < 140737488355328 → Ev (fun k => varint_Put.l0 k acc (u : Int)) (acc ++ vput u) := by
  induction n with
  | zero =>
    intro u acc hu hl
    refine Ev.step (f := fun _ => some (acc ++ vput u)) (fun k => ?_) (Ev.now _)
    have h : u < 128 := by omega
    have hl' := hl
    rw [vput_small h] at hl ⊢
    simp only [varint_Put.l0]
    rw [if_neg (by omega), if_pos (by simp at hl; omega), show ((u : Int) % 256) = (u : Int) from by omega]
  | succ n ih =>
    intro u acc hu hl
    by_cases h : u < 128
    · refine Ev.step (f := fun _ => some (acc ++ vput u)) (fun k => ?_) (Ev.now _)
      rw [vput_small h] at hl ⊢
      simp only [varint_Put.l0]
      rw [if_neg (by omega), if_pos (by simp at hl; omega), show ((u : Int) % 256) = (u : Int) from by omega]
    · rw [vput_big h] at hl ⊢
      simp only [List.length_cons] at hl
      have h1 := ih (u / 128) (acc ++ [((u % 128 + 128 : Nat) : Int)]) (by omega) (by simp; omega)
      rw [List.append_assoc] at h1
      refine Ev.step (f := fun k => varint_Put.l0 k (acc ++ [((u % 128 + 128 : Nat) : Int)]) ((u / 128 : Nat) : Int)) (fun k => ?_) h1
      simp only [varint_Put.l0]
      rw [if_pos (by omega), if_pos (by omega), or128, show ((u : Int) / 128) = ((u / 128 : Nat) : Int) from by omega]
def u64N (n : Int) : Nat := (n % 18446744073709551616).toNat
theorem u64N_lt (n : Int) : u64N n < 18446744073709551616 := by unfold u64N; omega
theorem u64N_eq (n : Int) : IntKind.u64.wrap n = ((u64N n : Nat) : Int) := by rw [wu64]; unfold u64N; omega
theorem put_ev (n : Int) : Ev (fun k => varint_Put.f k n) (vput (u64N n)) := by
  unfold varint_Put.f
  rw [u64N_eq]
  exact put_l0 _ _ [] (Nat.le_refl _) (by have := vput_len10 (u64N_lt n); simp; omega)

def vgetA : List Int → Nat → Nat → Option (Nat × Nat)
  | [], _, _ => none
  | x :: l, i, u =>
    if i = 9 ∧ x > 1 then none
    else if x ≥ 128 then vgetA l (i + 1) (u + x.toNat % 128 * 2 ^ (7 * i))
    else if x = 0 ∧ i > 0 then none
    else some (u + x.toNat % 128 * 2 ^ (7 * i), i + 1)
def vres : Option (Nat × Nat) → Int × Int × Int
  | none => (0, 0, 5)
  | some (u, n) => (wrap64 (u : Int), (n : Int), 0)
def vget (l : List Int) : Int × Int × Int := vres (vgetA l 0 0)
theorem pow7 {i : Nat} (h : i ≤ 8) : (2 : Nat) ^ (7 * (i + 1)) = 128 * 2 ^ (7 * i) ∧ 2 ^ (7 * i) ≤ 72057594037927936 := by
  refine ⟨by rw [Nat.mul_add, Nat.pow_add]; omega, ?_⟩
  calc 2 ^ (7 * i) ≤ 2 ^ 56 := Nat.pow_le_pow_right (by decide) (by omega)
    _ = 72057594037927936 := by decide
theorem shl7 {i : Nat} (hi : i ≤ 9) {c : Nat} (hc : c * 2 ^ (7 * i) < 18446744073709551616) (y : Int) (hy : y = 7 * (i : Int)) : shl .u64 (c : Int) y = ((c * 2 ^ (7 * i) : Nat) : Int) := by
  unfold shl
  have h1 : min y.toNat IntKind.u64.bits = 7 * i := by
    show min y.toNat 64 = 7 * i
    omega
  rw [h1, wu64]
  have h2 : ((c : Int) * 2 ^ (7 * i)) = ((c * 2 ^ (7 * i) : Nat) : Int) := by simp
  rw [h2]
  omega
theorem get_bound {i u : Nat} {x : Int} (hi : i ≤ 9) (hu : u < 2 ^ (7 * i)) (h0 : 0 ≤ x) (h1 : x ≤ 255) (h9 : ¬ (i = 9 ∧ x > 1)) :
    u < 18446744073709551616 ∧ x.toNat % 128 * 2 ^ (7 * i) < 18446744073709551616 ∧ u + x.toNat % 128 * 2 ^ (7 * i) < 18446744073709551616 ∧ (x ≥ 128 → i + 1 ≤ 9 ∧ u + x.toNat % 128 * 2 ^ (7 * i) < 2 ^ (7 * (i + 1))) := by
  rcases Nat.lt_or_ge i 9 with hlt | hge
  · have hp := pow7 (i := i) (by omega)
    have hc : x.toNat % 128 ≤ 127 := by omega
    have hm : x.toNat % 128 * 2 ^ (7 * i) ≤ 127 * 2 ^ (7 * i) := Nat.mul_le_mul_right _ hc
    refine ⟨by omega, by omega, by omega, fun _ => ⟨by omega, by omega⟩⟩
  · have he : i = 9 := by omega
    subst he
    have hx : x ≤ 1 := by omega
    have hc : x.toNat % 128 ≤ 1 := by omega
    have hm : x.toNat % 128 * 2 ^ (7 * 9) ≤ 1 * 2 ^ (7 * 9) := Nat.mul_le_mul_right _ hc
    have hp : (2 : Nat) ^ (7 * 9) = 9223372036854775808 := by decide
    rw [hp] at hu hm ⊢
    refine ⟨by omega, by omega, by omega, fun h => absurd h (by omega)⟩
theorem get_l0 (l : List Int) (hl : ∀ x ∈ l, 0 ≤ x ∧ x ≤ 255) (hn : l.length ≤ 140737488355328) : ∀ (d i u : Nat), i + d = l.length → i ≤ 9 → u < 2 ^ (7 * i) →
    Ev (fun k => varint_Get.l0 k (u : Int) l (l.length : Int) (i : Int)) (vres (vgetA (l.drop i) i u)) := by
  intro d
  induction d with
  | zero =>
    intro i u hi _ _
    refine Ev.step (f := fun _ => some (0, 0, 5)) (fun k => ?_) ?_
    · simp only [varint_Get.l0]
      rw [if_neg (by omega)]
    · rw [List.drop_of_length_le (by omega)]
      exact Ev.now _
  | succ d ih =>
    intro i u hi hi9 hu
    have hlt : i < l.length := by omega
    have hm := hl l[i] (List.getElem_mem hlt)
    have hr : rd l (i : Int) = l[i] := by
      unfold rd
      rw [Int.toNat_natCast, List.getD_eq_getElem?_getD, List.getElem?_eq_getElem hlt]; rfl
    have h7 : wrap64 (7 * (i : Int)) = 7 * (i : Int) := w64 (by omega) (by omega)
    have hi1 : wrap64 ((i : Int) + 1) = ((i + 1 : Nat) : Int) := by rw [w64 (by omega) (by omega)]; omega
    have key : Ev (fun k => varint_Get.j1 k (u : Int) (i : Int) l[i] l (l.length : Int) (i : Int) (decide (i = 9 ∧ l[i] > 1))) (vres (vgetA (l.drop i) i u)) := by
      rw [List.drop_eq_getElem_cons hlt]
      simp only [vgetA]
      by_cases h9 : i = 9 ∧ l[i] > 1
      · rw [decide_eq_true h9, if_pos h9]
        refine Ev.step (f := fun _ => some (0, 0, 5)) (fun k => ?_) (Ev.now _)
        simp only [varint_Get.j1, if_true]
      · rw [decide_eq_false h9, if_neg h9]
        obtain ⟨b1, b2, b3, b4⟩ := get_bound hi9 hu hm.1 hm.2 h9
        have hc : IntKind.u64.wrap (Go.bits .and .u8 l[i] 127) = ((l[i].toNat % 128 : Nat) : Int) := by rw [and127_u8 hm.1 hm.2, wu64]; omega
        have ho : Go.bits .or .u64 (u : Int) (shl .u64 (IntKind.u64.wrap (Go.bits .and .u8 l[i] 127)) (wrap64 (7 * (i : Int)))) = ((u + l[i].toNat % 128 * 2 ^ (7 * i) : Nat) : Int) := by
          rw [hc, shl7 hi9 b2 _ h7, or_high (7 * i) hu b1 b2]
        by_cases hge : l[i] ≥ 128
        · rw [if_pos hge]
          have h1 := ih (i + 1) (u + l[i].toNat % 128 * 2 ^ (7 * i)) (by omega) (b4 hge).1 (b4 hge).2
          refine Ev.step (f := fun k => varint_Get.l0 k ((u + l[i].toNat % 128 * 2 ^ (7 * i) : Nat) : Int) l (l.length : Int) ((i + 1 : Nat) : Int)) (fun k => ?_) h1
          simp only [varint_Get.j1]
          rw [if_neg (by decide), ho, h7, if_pos (by omega), if_pos hge, hi1]
        · rw [if_neg hge]
          refine Ev.step (f := fun _ => some (if l[i] = 0 ∧ i > 0 then (0, 0, 5) else (wrap64 ((u + l[i].toNat % 128 * 2 ^ (7 * i) : Nat) : Int), ((i + 1 : Nat) : Int), 0))) (fun k => ?_) ?_
          · simp only [varint_Get.j1]
            rw [if_neg (by decide), ho, h7, if_pos (by omega), if_neg hge, hi1]
            by_cases hz : l[i] = 0
            · rw [if_pos hz]
              by_cases hp : i > 0
              · rw [if_pos (by omega), if_pos ⟨hz, hp⟩]
              · rw [if_neg (by omega), if_neg (fun h => hp h.2)]
            · rw [if_neg hz, if_neg (fun h => hz h.1)]
          · by_cases hz : l[i] = 0 ∧ i > 0
            · rw [if_pos hz, if_pos hz]; exact Ev.now _
            · rw [if_neg hz, if_neg hz]; exact Ev.now _
    refine Ev.step (f := fun k => varint_Get.j1 k (u : Int) (i : Int) l[i] l (l.length : Int) (i : Int) (decide (i = 9 ∧ l[i] > 1))) (fun k => ?_) key
    simp only [varint_Get.l0]
    rw [if_pos (by omega), if_pos (by omega), if_pos (by omega), hr]
    by_cases h9 : i = 9
    · rw [if_pos (by omega)]
      congr 1
      simp [h9]
    · rw [if_neg (by omega)]
      congr 1
      simp [h9]
theorem get_ev (l : List Int) (hl : ∀ x ∈ l, 0 ≤ x ∧ x ≤ 255) (hn : l.length ≤ 140737488355328) : Ev (fun k => varint_Get.f k l) (vget l) :=
  get_l0 l hl hn l.length 0 0 (by omega) (by decide) (by decide)
def zigN (n : Int) : Nat := if 0 ≤ n then (2 * n).toNat else (-2 * n - 1).toNat
theorem zigN_lt {n : Int} (h0 : -9223372036854775808 ≤ n) (h1 : n ≤ 9223372036854775807) : zigN n < 18446744073709551616 := by unfold zigN; split <;> omega
theorem zig_ev {n : Int} (h0 : -9223372036854775808 ≤ n) (h1 : n ≤ 9223372036854775807) : varint_Zig.f n = some (wrap64 ((zigN n : Nat) : Int)) := by
  unfold varint_Zig.f
  have e1 : IntKind.u64.wrap ((IntKind.u64.wrap n) * 2) = ((u64N (2 * n) : Nat) : Int) := by rw [wu64, wu64]; unfold u64N; omega
  rw [e1]
  by_cases h : 0 ≤ n
  · have e2 : IntKind.u64.wrap (n / 9223372036854775808) = ((0 : Nat) : Int) := by rw [wu64]; omega
    rw [e2, u64_xor_nat _ _ (u64N_lt _) (by decide), Nat.xor_zero]
    unfold zigN u64N
    rw [if_pos h]
    congr 3
    omega
  · have e2 : IntKind.u64.wrap (n / 9223372036854775808) = ((18446744073709551615 : Nat) : Int) := by rw [wu64]; omega
    rw [e2, u64_xor_nat _ _ (u64N_lt _) (by decide), not64 (u64N_lt _)]
    unfold zigN u64N
    rw [if_neg h]
    congr 3
    omega
theorem num5_ev (n : Int) : lysimeterlaw5_num.f n = some n := rfl
theorem alive5_ev : Ev (fun k => lysimeterlaw5_alive.f k) true := by
  unfold lysimeterlaw5_alive.f
  have h1 := get_ev [128, 0] (by decide) (by decide)
  rw [show vget [128, 0] = (0, 0, 5) from by decide +kernel] at h1
  have h2 := put_ev 300
  rw [show vput (u64N 300) = [172, 2] from by rw [show u64N 300 = 300 from by decide, vput_big (by decide), vput_small (by decide)]; rfl] at h2
  refine Ev.bind h1 (Ev.bind h2 (ev_if_pos (by decide +kernel) (ev_one_bind (zig_ev (n := -1) (by decide) (by decide)) (ev_if_pos (by decide +kernel) ?_))))
  exact Ev.now _
theorem vput_last (n : Nat) : ∀ u, u ≤ n → ∃ (a : List Int) (x : Int), vput u = a ++ [x] ∧ (∀ y ∈ a, 128 ≤ y ∧ y ≤ 255) ∧ 0 ≤ x ∧ x < 128 := by
  induction n with
  | zero =>
    intro u hu
    exact ⟨[], u, by rw [vput_small (by omega)]; rfl, by simp, by omega, by omega⟩
  | succ n ih =>
    intro u hu
    by_cases h : u < 128
    · exact ⟨[], u, by rw [vput_small h]; rfl, by simp, by omega, by omega⟩
    · obtain ⟨a, x, e, ha, hx⟩ := ih (u / 128) (by omega)
      refine ⟨((u % 128 + 128 : Nat) : Int) :: a, x, by rw [vput_big h, e]; rfl, fun y hy => ?_, hx⟩
      rcases List.mem_cons.1 hy with rfl | hy
      · omega
      · exact ha y hy
theorem vget_big (l : List Int) : ∀ (i u : Nat), (∀ y ∈ l, 128 ≤ y) → vgetA l i u = none := by
  induction l with
  | nil => intro i u _; rfl
  | cons x l ih =>
    intro i u h
    simp only [vgetA]
    have hx := h x List.mem_cons_self
    split
    · rfl
    · exact ih _ _ (fun y hy => h y (List.mem_cons_of_mem _ hy))
theorem vget_big0 (l : List Int) : ∀ (i u : Nat), (∀ y ∈ l, 128 ≤ y) → (l ≠ [] ∨ 0 < i) → vgetA (l ++ [0]) i u = none := by
  induction l with
  | nil =>
    intro i u _ h
    have hi : 0 < i := by simpa using h
    simp only [List.nil_append, vgetA]
    split
    · rfl
    · simp [hi]
  | cons x l ih =>
    intro i u h _
    simp only [List.cons_append, vgetA]
    have hx := h x List.mem_cons_self
    split
    · rfl
    · exact ih _ _ (fun y hy => h y (List.mem_cons_of_mem _ hy)) (.inr (by omega))
theorem sizes_l0 (a2 : Int) (h1 : 1 ≤ a2) (h2 : a2 ≤ 5) (a : List Int) (x : Int) (ha : ∀ y ∈ a, 128 ≤ y ∧ y ≤ 255) (hla : a.length ≤ 100) : ∀ (d : Nat) (i : Int) (y : List Int), i + d = a2 → 1 ≤ i → (∀ z ∈ y, 128 ≤ z ∧ z ≤ 255) → y ≠ [] → y.length + d ≤ 1000 →
    Ev (fun k => lysimeterlaw5_VarintSizes.l0 k a2 (a ++ [x]) y i) true := by
  intro d
  induction d with
  | zero =>
    intro i y hi _ hy hne hl
    have hg1 := get_ev (y ++ [0]) (fun z hz => by
      rcases List.mem_append.1 hz with hz | hz
      · have := hy z hz; omega
      · simp at hz; omega) (by simp; omega)
    rw [show vget (y ++ [0]) = (0, 0, 5) from by unfold vget; rw [vget_big0 y 0 0 (fun z hz => (hy z hz).1) (.inl hne)]; rfl] at hg1
    have hg2 := get_ev a (fun z hz => by have := ha z hz; omega) (by omega)
    rw [show vget a = (0, 0, 5) from by unfold vget; rw [vget_big a 0 0 (fun z hz => (ha z hz).1)]; rfl] at hg2
    have hw : wrap64 (((a ++ [x]).length : Int) - 1) = (a.length : Int) := by rw [List.length_append, List.length_singleton]; rw [w64 (by omega) (by omega)]; omega
    have ht : (a ++ [x]).take ((a.length : Int)).toNat = a := by rw [Int.toNat_natCast, List.take_left]
    refine Ev.step (f := fun k => ((varint_Get.f k (y ++ [0])).bind fun bt134 => (if 0 ≤ (a.length : Int) then (if (a.length : Int) ≤ ((a ++ [x]).length : Int) then ((varint_Get.f k a).bind fun bt141 => ((lysimeterlaw5_num.f bt134.2.2).bind fun t144 => (if t144 = 5 then ((lysimeterlaw5_num.f bt141.2.2).bind fun t145 => (some (t145 == 5))) else (some false)))) else none) else none))) (fun k => ?_) ?_
    · simp only [lysimeterlaw5_VarintSizes.l0]
      rw [if_neg (by omega), if_pos (by omega), hw, ht]
    · refine Ev.bind hg1 (ev_if_pos (by omega) (ev_if_pos (by simp; omega) (Ev.bind hg2 ?_)))
      exact Ev.now _
  | succ d ih =>
    intro i y hi h1i hy hne hl
    have hw : wrap64 (i + 1) = i + 1 := w64 (by omega) (by omega)
    refine Ev.step (f := fun k => lysimeterlaw5_VarintSizes.l0 k a2 (a ++ [x]) (y ++ [128]) (i + 1)) (fun k => ?_) (ih (i + 1) (y ++ [128]) (by omega) (by omega) ?_ (by simp) (by simp; omega))
    · simp only [lysimeterlaw5_VarintSizes.l0]
      rw [if_pos (by omega), if_pos (by omega), hw]
    · intro z hz
      rcases List.mem_append.1 hz with hz | hz
      · exact hy z hz
      · simp at hz; omega
theorem sizes_mask {a0 : Int} (h1 : 1 ≤ a0) (h2 : a0 ≤ 9) : wrap64 ((shl .i64 1 (IntKind.u64.wrap (wrap64 (7 * a0)))) - 1) = ((2 ^ (7 * a0.toNat) - 1 : Nat) : Int) := by
  obtain rfl | rfl | rfl | rfl | rfl | rfl | rfl | rfl | rfl : a0 = 1 ∨ a0 = 2 ∨ a0 = 3 ∨ a0 = 4 ∨ a0 = 5 ∨ a0 = 6 ∨ a0 = 7 ∨ a0 = 8 ∨ a0 = 9 := by omega
  all_goals decide +kernel
theorem sizes_j0 {a0 a1 a2 : Int} (h1 : 1 ≤ a0) (h2 : a0 ≤ 9) (h3 : 0 ≤ a1) (h4 : a1 ≤ 9223372036854775807) (h5 : 1 ≤ a2) (h6 : a2 ≤ 5) :
    Ev (fun k => lysimeterlaw5_VarintSizes.j0 k a0 a1 a2 true false) true := by
  have hm := and_mask_i64 (a := a1) (7 * a0.toNat) (by omega) h3 h4
  obtain ⟨u, hu⟩ : ∃ u : Nat, u = a1.toNat % 2 ^ (7 * a0.toNat) := ⟨_, rfl⟩
  rw [← hu] at hm
  have hult : u < 2 ^ (7 * a0.toNat) := by rw [hu]; exact Nat.mod_lt _ (Nat.pow_pos (by decide))
  have hua : u ≤ a1.toNat := by rw [hu]; exact Nat.mod_le _ _
  have hlen := vput_len a0.toNat u hult (by omega)
  obtain ⟨a, x, e, ha, hx0, hx1⟩ := vput_last u u (Nat.le_refl _)
  have hput := put_ev ((u : Nat) : Int)
  rw [show u64N ((u : Nat) : Int) = u from by unfold u64N; omega, e] at hput
  rw [e] at hlen
  have hl2 : (a ++ [x]).length = a.length + 1 := by simp
  have hw : wrap64 (((a ++ [x]).length : Int) - 1) = (a.length : Int) := by rw [hl2, w64 (by omega) (by omega)]; omega
  have hrd : rd (a ++ [x]) (a.length : Int) = x := by
    unfold rd
    rw [Int.toNat_natCast, List.getD_eq_getElem?_getD, List.getElem?_append_right (Nat.le_refl _)]
    simp
  have hor : Go.bits .or .u8 x 128 = x + 128 := u8_or128_right x hx0 hx1
  have hset : (a ++ [x]).set (a.length : Int).toNat (x + 128) = a ++ [x + 128] := by
    rw [Int.toNat_natCast, List.set_append_right _ _ (Nat.le_refl _)]
    simp
  have hloop := sizes_l0 a2 h5 h6 a x ha (by omega) (a2 - 1).toNat 1 (a ++ [x + 128]) (by omega) (by omega) (fun z hz => by
    rcases List.mem_append.1 hz with hz | hz
    · exact ha z hz
    · simp at hz; omega) (by simp) (by simp; omega)
  refine Ev.step (f := fun k => (varint_Put.f k ((u : Nat) : Int)).bind fun t120 => (if (t120.length : Int) > a0 then (some false) else (if ([] : List Int).length + t120.length < 140737488355328 then ((some (([] : List Int) ++ t120 : List Int)).bind fun y123 => (if 0 ≤ (wrap64 ((y123.length : Int) - 1)) then (if (wrap64 ((y123.length : Int) - 1)) < (y123.length : Int) then (lysimeterlaw5_VarintSizes.l0 k a2 t120 (y123.set ((wrap64 ((y123.length : Int) - 1)) : Int).toNat (Go.bits .or .u8 (rd y123 (wrap64 ((y123.length : Int) - 1))) 128)) 1) else (none)) else (none))) else (none)))) (fun k => ?_) ?_
  · simp only [lysimeterlaw5_VarintSizes.j0]
    rw [if_neg (by decide), if_pos (by rw [wu64]; omega), sizes_mask h1 h2, hm]
  · refine Ev.bind hput (ev_if_neg (by omega) (ev_if_pos (by simp; omega) (ev_some_bind ?_)))
    rw [List.nil_append, hw, hrd, hor, hset]
    exact ev_if_pos (by omega) (ev_if_pos (by omega) hloop)
theorem sizes_true (a0 a1 a2 : Int) : Ev (fun k => lysimeterlaw5_VarintSizes.j0 k a0 a1 a2 true true) true := by
  refine Ev.step (f := fun _ => some true) (fun k => ?_) (Ev.now _)
  simp only [lysimeterlaw5_VarintSizes.j0, if_true]
theorem VarintSizes : lysimeterlaw5_VarintSizes.Pure := by
  intro a0 a1 a2 w0 w1 w2
  have h1 := wf_i64 w1
  refine Ev.rounds (r := true) (g := fun k => lysimeterlaw5_VarintSizes.f k a0 a1 a2) ?_
  unfold lysimeterlaw5_VarintSizes.f
  refine Ev.bind alive5_ev (ev_if_pos rfl ?_)
  by_cases c1 : a0 < 1
  · exact ev_if_pos c1 (sizes_true _ _ _)
  refine ev_if_neg c1 ?_
  by_cases c2 : a0 > 9
  · exact ev_if_pos c2 (sizes_true _ _ _)
  refine ev_if_neg c2 ?_
  by_cases c3 : a1 < 0
  · exact ev_if_pos c3 (sizes_true _ _ _)
  refine ev_if_neg c3 ?_
  by_cases c4 : a2 < 1
  · exact ev_if_pos c4 (sizes_true _ _ _)
  refine ev_if_neg c4 ?_
  by_cases c5 : a2 > 5
  · rw [decide_eq_true c5]
    exact sizes_true _ _ _
  · rw [decide_eq_false c5]
    exact sizes_j0 (by omega) (by omega) (by omega) h1.2 (by omega) (by omega)

end Go.Proofs.Ytjilnpbgclnecaa.Pure
