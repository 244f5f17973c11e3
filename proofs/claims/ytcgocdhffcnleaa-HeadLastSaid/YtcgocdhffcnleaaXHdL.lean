/- A part of the proofs about the head: see the theorems' own lines. -/
import Derived.Test.YtcgocdhffcnleaaXHdK
import Derived.Recover
import Derived.Defers
import Derived.WalkLawsBesides
import Derived.Outline
namespace Go.Proofs.Ytcgocdhffcnleaa.PHead
open Go Go.RowKit Go.Proofs.YtcgocdhffcnleaaW.PrintWords Go.Proofs.YtcgocdhffcnleaaW.PrintLast Go.Proofs.YtcgocdhffcnleaaW.PrintMore Go.Proofs.Ytcgocdhffcnleaa.XB Go.Proofs.Ytcgocdhffcnleaa.PHeadPlays Go.Proofs.Ytcgocdhffcnleaa.XH
set_option linter.unusedVariables false
set_option linter.unusedSimpArgs false
/-! ### May; a sample's place -/
section
set_option maxHeartbeats 4000000 in
theorem head_May.calls {base hb mb : Nat} {win : Int} {S : List Hd.Ent} (A : Option Addr) (c : Nat) (rows : List S46) (w : World) (hH : Hd.HR base hb mb win S w) (hC : Kd.C k46 w A rows.length rows) (hc : rows.length ≤ c) :
    Calls Try.prog 37 #[.pointer (some ⟨hb, 0, none⟩), .slice A rows.length c] w fun e w' => e = .returned (.int .i64 (Hd.askC win (-Hd.maxT) rows (Hd.abs S))) ∧ Below w.heap.size w w' := by
  have HASK := Aside0.mk (head_Ask.calls (-9007199254740992) A c rows w hH hC hc)
  clear hH hC hc
  go_enter Try.func37, Try.ntmps37
  go_wp2_with (go_at_call 80; (with_reducible refine HASK.out.mono ?_); rintro e w1 ⟨rfl, hb1⟩; have HB1 := Aside0.mk hb1; clear hb1)
  go_ret
  exact ⟨rfl, HB1.out⟩
/-- Where a time stands to a sample. -/
def Hd.cmpT (x : S44) (t : Int) : Int := if x.f0 < t then -1 else if t < x.f0 then 1 else 0
set_option maxHeartbeats 4000000 in
theorem head_place.calls (x : S44) (t : Int) (w : World) : Calls Try.prog 137 #[.agg #[.int .i64 x.f0, .int .i64 x.f1], .int .i64 t] w fun e w' => e = .returned (.int .i64 (Hd.cmpT x t)) ∧ Below w.heap.size w w' := by
  obtain ⟨x0, x1⟩ := x
  by_cases h1 : x0 < t
  · have HE := Aside0.mk (show Hd.cmpT ⟨x0, x1⟩ t = -1 by unfold Hd.cmpT; rw [if_pos h1])
    go_enter Try.func137, Try.ntmps137
    go_wp2
    go_ret
    exact ⟨by rw [HE.out]; rfl, below_alloc (Below.refl _ _) _⟩
  · by_cases h2 : t < x0
    · have HE := Aside0.mk (show Hd.cmpT ⟨x0, x1⟩ t = 1 by unfold Hd.cmpT; rw [if_neg h1, if_pos h2])
      have h2z : x0 > t := h2
      go_enter Try.func137, Try.ntmps137
      go_wp2
      go_ret
      exact ⟨by rw [HE.out]; rfl, below_alloc (Below.refl _ _) _⟩
    · have HE := Aside0.mk (show Hd.cmpT ⟨x0, x1⟩ t = 0 by unfold Hd.cmpT; rw [if_neg h1, if_neg h2])
      have h2z : ¬ x0 > t := h2
      go_enter Try.func137, Try.ntmps137
      go_wp2
      go_ret
      exact ⟨by rw [HE.out]; rfl, below_alloc (Below.refl _ _) _⟩
/-- How many samples stand below a time. -/
def Hd.pos : List S44 → Int → Nat
  | [], _ => 0
  | x :: xs, t => if x.f0 < t then Hd.pos xs t + 1 else 0
theorem Hd.pos_le : ∀ (xs : List S44) (t : Int), Hd.pos xs t ≤ xs.length
  | [], _ => Nat.le_refl _
  | x :: xs, t => by
    rw [Hd.pos]
    have := Hd.pos_le xs t
    split
    · rw [List.length_cons]; omega
    · exact Nat.zero_le _
theorem Hd.pos_low : ∀ {xs : List S44} {t : Int} {k : Nat} (hk : k < xs.length), k < Hd.pos xs t → xs[k].f0 < t
  | [], _, _, h, _ => by simp at h
  | x :: xs, t, k, hk, h => by
    rw [Hd.pos] at h
    split at h
    · rename_i hx
      cases k with
      | zero => exact hx
      | succ k => exact Hd.pos_low (xs := xs) (by simpa using hk) (by omega)
    · omega
theorem Hd.pos_high : ∀ {xs : List S44} {t : Int} (hr : Hd.rising xs) {k : Nat} (hk : k < xs.length), Hd.pos xs t ≤ k → t ≤ xs[k].f0
  | [], _, _, _, h, _ => by simp at h
  | x :: xs, t, hr, k, hk, h => by
    obtain ⟨h1, h2⟩ := List.pairwise_cons.1 hr
    rw [Hd.pos] at h
    split at h
    · cases k with
      | zero => omega
      | succ k => exact Hd.pos_high (xs := xs) h2 (by simpa using hk) (by omega)
    · rename_i hx
      cases k with
      | zero => show t ≤ x.f0; omega
      | succ k =>
        have hk' : k < xs.length := by simpa using hk
        have := h1 xs[k] (List.getElem_mem hk')
        show t ≤ xs[k].f0
        omega
theorem Hd.pos_eq {xs : List S44} {t : Int} (hr : Hd.rising xs) {i : Nat} (hi : i ≤ xs.length) (h1 : ∀ k (hk : k < xs.length), k < i → xs[k].f0 < t) (h2 : ∀ k (hk : k < xs.length), i ≤ k → t ≤ xs[k].f0) : Hd.pos xs t = i := by
  have hp := Hd.pos_le xs t
  rcases Nat.lt_trichotomy (Hd.pos xs t) i with h | h | h
  · have a := h1 (Hd.pos xs t) (by omega) h
    have b := Hd.pos_high hr (k := Hd.pos xs t) (by omega) (Nat.le_refl _)
    omega
  · exact h
  · have a := Hd.pos_low (xs := xs) (t := t) (k := i) (by omega) h
    have b := h2 i (by omega) (Nat.le_refl _)
    omega
/-- Is there a sample at a time? -/
def Hd.there (xs : List S44) (t : Int) : Bool := match xs[Hd.pos xs t]? with
  | some x => x.f0 == t
  | none => false
theorem Hd.putS_there : ∀ {xs : List S44} {s : S44}, Hd.there xs s.f0 = true → Hd.putS xs s = xs.set (Hd.pos xs s.f0) s
  | [], s, h => by simp [Hd.there, Hd.pos] at h
  | x :: xs, s, h => by
    unfold Hd.there at h
    rw [Hd.putS]
    by_cases hx : x.f0 < s.f0
    · rw [if_pos hx]
      rw [Hd.pos, if_pos hx] at h ⊢
      rw [List.getElem?_cons_succ] at h
      rw [List.set_cons_succ, Hd.putS_there (xs := xs) h]
    · rw [if_neg hx]
      rw [Hd.pos, if_neg hx] at h ⊢
      rw [List.getElem?_cons_zero] at h
      have : x.f0 = s.f0 := by simpa using h
      rw [if_pos this]
      rfl
theorem Hd.putS_new : ∀ {xs : List S44} {s : S44}, Hd.there xs s.f0 = false → Hd.putS xs s = xs.take (Hd.pos xs s.f0) ++ s :: xs.drop (Hd.pos xs s.f0)
  | [], s, h => rfl
  | x :: xs, s, h => by
    unfold Hd.there at h
    rw [Hd.putS]
    by_cases hx : x.f0 < s.f0
    · rw [if_pos hx]
      rw [Hd.pos, if_pos hx] at h ⊢
      rw [List.getElem?_cons_succ] at h
      rw [List.take_succ_cons, List.drop_succ_cons, Hd.putS_new (xs := xs) h]
      rfl
    · rw [if_neg hx]
      rw [Hd.pos, if_neg hx] at h ⊢
      rw [List.getElem?_cons_zero] at h
      have : ¬ x.f0 = s.f0 := by simpa using h
      rw [if_neg this]
      rfl
set_option maxHeartbeats 8000000 in
set_option maxRecDepth 100000 in
theorem head_search.calls (A : Option Addr) (c : Nat) (xs : List S44) (t : Int) (w : World) (hC : Kd.C k44 w A xs.length xs) (hr : Hd.rising xs) (hn : xs.length ≤ 1099511627776) :
    Calls Try.prog 138 #[.slice A xs.length c, .int .i64 t, .func (.func 137) #[] #[]] w fun e w' => e = .returned (.tuple #[.int .i64 (Hd.pos xs t : Nat), .bool (Hd.there xs t)]) ∧ Below w.heap.size w w' := by
  have HC := Aside0.mk hC
  have HR := Aside0.mk hr
  clear hC hr
  obtain ⟨n, hnn⟩ : ∃ n, n = xs.length := ⟨_, rfl⟩
  have HN := Aside0.mk hnn
  rw [← hnn] at hn ⊢
  clear hnn
  go_enter Try.func138, Try.ntmps138
  go_wp2
  go_loopg [9, 10] n (fun kx v9 v10 wr => ∃ i j : Nat, v9 = .int .i64 i ∧ v10 = .int .i64 j ∧ i ≤ j ∧ j ≤ n ∧ j - i ≤ kx ∧ Aside0 (∀ k (hk : k < xs.length), k < i → xs[k].f0 < t) ∧ Aside0 (∀ k (hk : k < xs.length), j ≤ k → t ≤ xs[k].f0) ∧ Aside0 (Below w.heap.size w wr))
  case atStart => exact ⟨0, n, rfl, rfl, Nat.zero_le _, Nat.le_refl _, by omega, ⟨fun k hk h => absurd h (Nat.not_lt_zero _)⟩, ⟨fun k hk h => by have := HN.out; omega⟩, ⟨Below.refl _ _⟩⟩
  case round =>
    obtain ⟨i, j, rfl, rfl, hij, hj, hkx, HLO, HHI, HB⟩ := hrel
    by_cases hlt : i < j
    · have hltz : (i : Int) < (j : Int) := by omega
      obtain ⟨h, hh⟩ : ∃ h, h = (i + j) / 2 := ⟨_, rfl⟩
      have hhi : i ≤ h := by omega
      have hhj : h < j := by omega
      have hhn : h < xs.length := by have := HN.out; omega
      obtain ⟨ad, hA, x0, x1⟩ := at_T44 HC.out (h : Int) (by omega) (by omega)
      subst hA
      have hrd : rd_T44 xs (h : Int) = xs[h] := by unfold rd_T44; simp [hhn]
      obtain ⟨x, hx⟩ : ∃ x, x = xs[h] := ⟨_, rfl⟩
      rw [hrd, ← hx, Int.toNat_natCast] at x0 x1
      have y0 := pw_cell_below HB.out x0
      have y1 := pw_cell_below HB.out x1
      have HX := Aside0.mk hx
      have HPL := Aside0.mk (fun W => head_place.calls x t W)
      clear hrd hx x0 x1
      have hmid : ((i : Int) + (j : Int)) / 2 = (h : Int) := by omega
      have hhz : (h : Int) < (n : Int) := by have := HN.out; omega
      have hh0 : (0 : Int) ≤ (h : Int) := by omega
      have hhm : h ≤ 9223372036854775806 := by omega
      have HHH := Aside0.mk (And.intro hhi hhj)
      clear hh hhi hhj
      by_cases hc : x.f0 < t
      · have HE := Aside0.mk (show Hd.cmpT x t = -1 by unfold Hd.cmpT; rw [if_pos hc])
        rw [HE.out] at HPL
        have HCX := Aside0.mk hc
        clear hc
        go_wp2_with (go_at_call 137; (with_reducible refine (HPL.out _).mono ?_); rintro e w2 ⟨rfl, hb2⟩; have HB2 := Aside0.mk (below_step HB.out hb2); clear hb2)
        go_roundg (j - (h + 1))
        case measure => have := HHH.out; omega
        case rel =>
          refine ⟨h + 1, j, by go_num, rfl, by have := HHH.out; omega, hj, Nat.le_refl _, ⟨fun k hk hkh => ?_⟩, HHI, HB2⟩
          rcases Nat.lt_or_ge k h with h5 | h5
          · have h6 := List.pairwise_iff_getElem.1 HR.out k h hk hhn h5
            have := HCX.out
            rw [HX.out] at this
            omega
          · obtain rfl : k = h := by omega
            have := HCX.out
            rw [HX.out] at this
            exact this
      · have HE := Aside0.mk (show ¬ Hd.cmpT x t < 0 by unfold Hd.cmpT; rw [if_neg hc]; split <;> omega)
        have HCX := Aside0.mk hc
        obtain ⟨cv, hcv⟩ : ∃ cv, cv = Hd.cmpT x t := ⟨_, rfl⟩
        rw [← hcv] at HPL HE
        have hcz : ¬ cv < 0 := HE.out
        clear hc hcv HE
        go_wp2_with (go_at_call 137; (with_reducible refine (HPL.out _).mono ?_); rintro e w2 ⟨rfl, hb2⟩; have HB2 := Aside0.mk (below_step HB.out hb2); clear hb2)
        go_roundg (h - i)
        case measure => have := HHH.out; omega
        case rel =>
          refine ⟨i, h, rfl, rfl, HHH.out.1, by have := HHH.out; omega, Nat.le_refl _, HLO, ⟨fun k hk hkh => ?_⟩, HB2⟩
          rcases Nat.lt_or_ge h k with h5 | h5
          · have h6 := List.pairwise_iff_getElem.1 HR.out h k hhn hk h5
            have := HCX.out
            rw [HX.out] at this
            omega
          · obtain rfl : k = h := by omega
            have := HCX.out
            rw [HX.out] at this
            omega
    · obtain rfl : j = i := by omega
      have HP := Aside0.mk (Hd.pos_eq (xs := xs) (t := t) HR.out (i := j) (by have := HN.out; omega) HLO.out HHI.out)
      have hltz : ¬ (j : Int) < (j : Int) := by omega
      by_cases hjn : j < n
      · have hjz : (j : Int) < (n : Int) := by omega
        have hjx : j < xs.length := by have := HN.out; omega
        obtain ⟨ad, hA, x0, x1⟩ := at_T44 HC.out (j : Int) (by omega) (by omega)
        subst hA
        have hrd : rd_T44 xs (j : Int) = xs[j] := by unfold rd_T44; simp [hjx]
        obtain ⟨x, hx⟩ : ∃ x, x = xs[j] := ⟨_, rfl⟩
        rw [hrd, ← hx, Int.toNat_natCast] at x0 x1
        have y0 := pw_cell_below HB.out x0
        have y1 := pw_cell_below HB.out x1
        have HPL := Aside0.mk (fun W => head_place.calls x t W)
        have HTH := Aside0.mk (show Hd.there xs t = (Hd.cmpT x t == 0) from by
          unfold Hd.there Hd.cmpT
          rw [HP.out, List.getElem?_eq_getElem hjx, ← hx]
          have hge := HHI.out j hjx (Nat.le_refl _)
          rw [← hx] at hge
          rw [if_neg (by omega)]
          show (x.f0 == t) = _
          by_cases he : x.f0 = t
          · rw [if_neg (by omega), he]; simp
          · rw [if_pos (by omega), beq_eq_false_iff_ne.2 he]; rfl)
        have hh0 : (0 : Int) ≤ (j : Int) := by omega
        obtain ⟨cv, hcv⟩ : ∃ cv, cv = Hd.cmpT x t := ⟨_, rfl⟩
        rw [← hcv] at HPL HTH
        clear hrd hx x0 x1 hcv
        go_wp2_with (go_at_call 137; (with_reducible refine (HPL.out _).mono ?_); rintro e w2 ⟨rfl, hb2⟩; have HB2 := Aside0.mk (below_step HB.out hb2); clear hb2)
        go_ret2
        exact ⟨by rw [HP.out, HTH.out]; rfl, HB2.out⟩
      · have hjz : ¬ (j : Int) < (n : Int) := by omega
        have HTH := Aside0.mk (show Hd.there xs t = false from by
          unfold Hd.there
          rw [HP.out, List.getElem?_eq_none (by have := HN.out; omega)])
        go_wp2_with fail
        go_ret2
        exact ⟨by rw [HP.out, HTH.out]; rfl, HB.out⟩
end
end Go.Proofs.Ytcgocdhffcnleaa.PHead
