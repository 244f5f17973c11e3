/- slices.SortStableFunc's own text (Go's library), walked over any program that bears it: elements of k cells, a comparison that may lay blocks: what its functions make of the row. Not the law itself: a part of its walk. -/
import Derived.Test.YtjilnpbgclnecacProg
import Derived.Test.YtjilnpbgclnecacXStable
import Derived.Shelf.SlSortCmp.PdqK
import Derived.Deep.DeepCutAuto
import Derived.Deep.CutBlock
set_option linter.unusedVariables false
namespace Go.Proofs.Ytjilnpbgclnecac.XSw
open Go Go.Proofs Go.Shelf Go.RowKit Go.Lib Go.Sort Go.Proofs.Ytjilnpbgclnecac Go.Proofs.Ytjilnpbgclnecac.XSt
variable {P : Program} {α : Type} [Inhabited α]
/-- The program bears the family's bodies and their types. -/
structure Lays (P : Program) : Prop where
  mixed : P.follows .mixedOrders = true
  fSW : P.funcs[241]? = some Try.f241
  fRO : P.funcs[231]? = some Try.f231
  fSY : P.funcs[208]? = some Try.f208
  fST : P.funcs[184]? = some Try.f184
  fSS : P.funcs[151]? = some Try.f151
  fIN : P.funcs[207]? = some Try.f207
  t0 : P.underlying 0 = some (TypeDesc.tuple #[])
  a0 : ∀ w, (isAgg 0).run P w = .ok false w
  z0 : ∀ w, (Go.sizeOf 0).run P w = .ok 1 w
  v0 : ∀ w, (zeroValue 0).run P w = .ok (Value.tuple #[]) w
  t1 : P.underlying 3 = some (TypeDesc.int IntKind.i64)
  a1 : ∀ w, (isAgg 3).run P w = .ok false w
  z1 : ∀ w, (Go.sizeOf 3).run P w = .ok 1 w
  v1 : ∀ w, (zeroValue 3).run P w = .ok (Value.int IntKind.i64 0) w
  t2 : P.underlying 4 = some (TypeDesc.bool)
  a2 : ∀ w, (isAgg 4).run P w = .ok false w
  z2 : ∀ w, (Go.sizeOf 4).run P w = .ok 1 w
  v2 : ∀ w, (zeroValue 4).run P w = .ok (Value.bool false) w
  t3 : P.underlying 60 = some (TypeDesc.slice 54)
  a3 : ∀ w, (isAgg 60).run P w = .ok false w
  z3 : ∀ w, (Go.sizeOf 60).run P w = .ok 1 w
  v3 : ∀ w, (zeroValue 60).run P w = .ok (Value.slice none 0 0) w
  t4 : P.underlying 210 = some (TypeDesc.func #[54, 54] #[3] false)
  a4 : ∀ w, (isAgg 210).run P w = .ok false w
  z4 : ∀ w, (Go.sizeOf 210).run P w = .ok 1 w
  v4 : ∀ w, (zeroValue 210).run P w = .ok (Value.nilFunc) w
  t5 : P.underlying 213 = some (TypeDesc.int IntKind.u64)
  a5 : ∀ w, (isAgg 213).run P w = .ok false w
  z5 : ∀ w, (Go.sizeOf 213).run P w = .ok 1 w
  v5 : ∀ w, (zeroValue 213).run P w = .ok (Value.int IntKind.u64 0) w
theorem lays : Lays Try.prog := {
  mixed := by kernel_rfl
  fSW := Try.func241
  fRO := Try.func231
  fSY := Try.func208
  fST := Try.func184
  fSS := Try.func151
  fIN := Try.func207
  t0 := Try.underlying0
  a0 := Try.isAgg0
  z0 := Try.sizeOf0
  v0 := Try.zeroValue0
  t1 := Try.underlying3
  a1 := Try.isAgg3
  z1 := Try.sizeOf3
  v1 := Try.zeroValue3
  t2 := Try.underlying4
  a2 := Try.isAgg4
  z2 := Try.sizeOf4
  v2 := Try.zeroValue4
  t3 := Try.underlying60
  a3 := Try.isAgg60
  z3 := Try.sizeOf60
  v3 := Try.zeroValue60
  t4 := Try.underlying210
  a4 := Try.isAgg210
  z4 := Try.sizeOf210
  v4 := Try.zeroValue210
  t5 := Try.underlying213
  a5 := Try.isAgg213
  z5 := Try.sizeOf213
  v5 := Try.zeroValue213 }
set_option maxHeartbeats 8000000 in
set_option maxRecDepth 1000000 in
theorem swapRange_w (L : Lays P) (k : Nat) (aE : ∀ w, (isAgg 54).run P w = .ok true w) (zE : ∀ w, (Go.sizeOf 54).run P w = .ok k w) (enc : α → List Value) (cf : α → α → Int) (g : Nat) (cb : Array Value) (blk off cap : Nat) (d0 : Array α) (w0 : World)
    (eg : ∀ args w, (callFunc g args).run P w = .ok (.enter g args) w) (hcmp : CmpLays P g cb enc k cf blk off d0.size w0) (R : RowK enc k w0 blk off d0) (hsz : d0.size < 4611686018427387904) (a b m : Nat) (d : Array α) (w : World) (hs : d.size = d0.size) (S : SWK enc k w0 blk off d w) (ha : a + m ≤ d0.size) (hb : b + m ≤ d0.size) :
    Calls P 241 #[.slice (some ⟨blk, off, none⟩) d0.size cap, .int .i64 a, .int .i64 b, .int .i64 m, .func (.func g) #[] cb] w fun e w' => e = .returned (.tuple #[]) ∧ SWK enc k w0 blk off (swapRange a b m d) w' := by
  have mixed := L.mixed; have t0 := L.t0; have a0 := L.a0; have z0 := L.z0; have v0 := L.v0; have t1 := L.t1; have a1 := L.a1; have z1 := L.z1; have v1 := L.v1; have t2 := L.t2; have a2 := L.a2; have z2 := L.z2; have v2 := L.v2; have t3 := L.t3; have a3 := L.a3; have z3 := L.z3; have v3 := L.v3; have t4 := L.t4; have a4 := L.a4; have z4 := L.z4; have v4 := L.v4; have t5 := L.t5; have a5 := L.a5; have z5 := L.z5; have v5 := L.v5
  have S0 : Aside (SWK enc k w0 blk off d w) := S
  clear S hcmp
  go_enter L.fSW, Try.ntmps241
  go_wp2
  go_loopg [10] m (fun kx s10 wr => ∃ (i : Nat) (dk : Array α), s10 = .int .i64 i ∧ i ≤ m ∧ m - i ≤ kx ∧ dk.size = d0.size ∧ Aside (SWK enc k w0 blk off dk wr) ∧ Hid (swapRange (a + i) (b + i) (m - i) dk = swapRange a b m d))
  case atStart => exact ⟨0, d, rfl, Nat.zero_le _, Nat.le_refl _, hs, S0, rfl⟩
  case round =>
    obtain ⟨i, dk, rfl, hi, hkx, hds, S1, HE⟩ := hrel
    clear S0
    by_cases hlt : i < m
    · have hltz : (i : Int) < (m : Int) := by omega
      have e1a : ((a : Int) + (i : Int)).toNat = a + i := by omega
      have p1a : (0 : Int) ≤ (a : Int) + (i : Int) := by omega
      have b1a : (a : Int) + (i : Int) < (d0.size : Int) := by omega
      have r1a : IntKind.i64.wrap ((a : Int) + (i : Int)) = (a : Int) + (i : Int) := by rw [IntKind.wrap_i64]; omega
      have e1c : ((b : Int) + (i : Int)).toNat = b + i := by omega
      have p1c : (0 : Int) ≤ (b : Int) + (i : Int) := by omega
      have b1c : (b : Int) + (i : Int) < (d0.size : Int) := by omega
      have r1c : IntKind.i64.wrap ((b : Int) + (i : Int)) = (b : Int) + (i : Int) := by rw [IntKind.wrap_i64]; omega
      have S2 : Aside (SWK enc k w0 blk off (swp dk (a + i) (b + i)) ((wr.drew.setCells blk (off + (a + i) * k) (enc dk[b + i]!)).setCells blk (off + (b + i) * k) (enc dk[a + i]!))) := S1.out.swapped R (a + i) (b + i) (by omega) (by omega)
      have l1a := S1.out.ld1 R hds P (a + i) (by omega)
      have l1b := S1.out.ld1 R hds P (b + i) (by omega)
      have s1a := S1.out.st1 R hds P (a + i) (by omega) dk[b + i]!
      have s1b := S1.out.st2 R hds P (a + i) (b + i) (by omega) (by omega) dk[b + i]! dk[a + i]!
      have n1a : (enc dk[a + i]!).length = k := R.hk _
      have n1b : (enc dk[b + i]!).length = k := R.hk _
      generalize enc dk[a + i]! = cI1 at S2 l1a s1b n1a
      generalize enc dk[b + i]! = cJ1 at S2 l1b s1a s1b n1b
      clear S1
      go_wp2_with fail
      go_big_region_o
      clear l1a l1b s1a s1b
      generalize (wr.drew.setCells blk (off + (a + i) * k) cJ1).setCells blk (off + (b + i) * k) cI1 = w2 at S2 ⊢
      go_wp2
      go_roundg (m - (i + 1))
      case measure => omega
      case rel => exact ⟨i + 1, swp dk (a + i) (b + i), by go_num, by omega, Nat.le_refl _, by rw [size_swp]; exact hds, S2, (show Hid _ from by show _ = _; rw [← HE.out, show m - i = (m - (i + 1)) + 1 from by omega]; rfl)⟩
    · have hltz : ¬ (i : Int) < (m : Int) := by omega
      go_wp2
      go_end0
      refine ⟨rfl, ?_⟩
      have e : dk = swapRange a b m d := by rw [← HE.out, show m - i = 0 from by omega]; rfl
      rw [← e]
      exact S1.out
set_option maxHeartbeats 8000000 in
set_option maxRecDepth 1000000 in
theorem rot_w (L : Lays P) (k : Nat) (aE : ∀ w, (isAgg 54).run P w = .ok true w) (zE : ∀ w, (Go.sizeOf 54).run P w = .ok k w) (enc : α → List Value) (cf : α → α → Int) (g : Nat) (cb : Array Value) (blk off cap : Nat) (d0 : Array α) (w0 : World)
    (eg : ∀ args w, (callFunc g args).run P w = .ok (.enter g args) w) (hcmp : CmpLays P g cb enc k cf blk off d0.size w0) (R : RowK enc k w0 blk off d0) (hsz : d0.size < 4611686018427387904) (a m b : Nat) (d : Array α) (w : World) (hs : d.size = d0.size) (S : SWK enc k w0 blk off d w) (ham : a < m) (hmb : m < b) (hb : b ≤ d0.size) :
    Calls P 231 #[.slice (some ⟨blk, off, none⟩) d0.size cap, .int .i64 a, .int .i64 m, .int .i64 b, .func (.func g) #[] cb] w fun e w' => e = .returned (.tuple #[]) ∧ SWK enc k w0 blk off (rot m (m - a + (b - m)) (m - a) (b - m) d) w' := by
  have mixed := L.mixed; have t0 := L.t0; have a0 := L.a0; have z0 := L.z0; have v0 := L.v0; have t1 := L.t1; have a1 := L.a1; have z1 := L.z1; have v1 := L.v1; have t2 := L.t2; have a2 := L.a2; have z2 := L.z2; have v2 := L.v2; have t3 := L.t3; have a3 := L.a3; have z3 := L.z3; have v3 := L.v3; have t4 := L.t4; have a4 := L.a4; have z4 := L.z4; have v4 := L.v4; have t5 := L.t5; have a5 := L.a5; have z5 := L.z5; have v5 := L.v5
  have S0 : Aside (SWK enc k w0 blk off d w) := S
  have HC : Aside _ := hcmp
  have eSW : ∀ args w, (callFunc 241 args).run P w = .ok (.enter 241 args) w := enters_of L.fSW (by kernel_rfl) rfl
  clear S hcmp
  have c1 : (m : Int) - (a : Int) = ((m - a : Nat) : Int) := by omega
  have c2 : (b : Int) - (m : Int) = ((b - m : Nat) : Int) := by omega
  go_enter L.fRO, Try.ntmps231
  go_wp2
  go_loopg [10, 11] (b - a) (fun kx s10 s11 wr => ∃ (i j K : Nat) (dk : Array α), s10 = .int .i64 i ∧ s11 = .int .i64 j ∧ 1 ≤ i ∧ 1 ≤ j ∧ i ≤ m - a ∧ j ≤ b - m ∧ i + j ≤ K ∧ i + j ≤ kx ∧ dk.size = d0.size ∧ Aside (SWK enc k w0 blk off dk wr) ∧ Hid (rot m K i j dk = rot m (m - a + (b - m)) (m - a) (b - m) d))
  case atStart => exact ⟨m - a, b - m, m - a + (b - m), d, by first | rfl | rw [c1], by first | rfl | rw [c2], by omega, by omega, Nat.le_refl _, Nat.le_refl _, Nat.le_refl _, by omega, hs, S0, rfl⟩
  case round =>
    obtain ⟨i, j, K, dk, rfl, rfl, hi1, hj1, hi, hj, hK, hkx, hds, S1, HE⟩ := hrel
    clear S0 c1 c2
    obtain ⟨K, rfl⟩ : ∃ q, K = q + 1 := ⟨K - 1, by omega⟩
    have c3 : ((m - i : Nat) : Int) = (m : Int) - (i : Int) := by omega
    by_cases hij : i = j
    · subst hij
      have hcall := swapRange_w L k aE zE enc cf g cb blk off cap d0 w0 eg HC.out R hsz (m - i) m i dk wr hds S1.out (by omega) (by omega)
      rw [c3] at hcall
      clear c3 S1
      go_wp2_with (go_at_fn 241; refine hcall.mono ?_; rintro e w1 ⟨rfl, S2⟩)
      go_end0
      refine ⟨rfl, ?_⟩
      have e : swapRange (m - i) m i dk = rot m (m - a + (b - m)) (m - a) (b - m) d := by rw [← HE.out]; unfold rot; rw [if_pos rfl]
      rw [← e]
      exact S2
    · have hijz : ¬ (i : Int) = (j : Int) := by omega
      by_cases hlt : j < i
      · have hltz : (i : Int) > (j : Int) := by omega
        have hltz' : (j : Int) < (i : Int) := by omega
        have hcall := swapRange_w L k aE zE enc cf g cb blk off cap d0 w0 eg HC.out R hsz (m - i) m j dk wr hds S1.out (by omega) (by omega)
        rw [c3] at hcall
        clear c3 S1
        go_wp2_with (go_at_fn 241; refine hcall.mono ?_; rintro e w1 ⟨rfl, S2⟩)
        have S2 : Aside (SWK enc k w0 blk off _ w1) := S2
        have hd2 : (swapRange (m - i) m j dk).size = d0.size := by rw [size_swapRange]; exact hds
        go_roundg (i - j + j)
        case measure => omega
        case rel => exact ⟨i - j, j, K, _, by rw [show ((i - j : Nat) : Int) = (i : Int) - (j : Int) from by omega], rfl, by omega, by omega, by omega, by omega, by omega, Nat.le_refl _, hd2, S2, (show Hid _ from by show _ = _; rw [← HE.out]; conv => rhs; unfold rot; rw [if_neg hij, if_pos hlt])⟩
      · have hltz : ¬ (i : Int) > (j : Int) := by omega
        have hltz' : ¬ (j : Int) < (i : Int) := by omega
        have c4 : ((m + j - i : Nat) : Int) = (m : Int) + (j : Int) - (i : Int) := by omega
        have hcall := swapRange_w L k aE zE enc cf g cb blk off cap d0 w0 eg HC.out R hsz (m - i) (m + j - i) i dk wr hds S1.out (by omega) (by omega)
        rw [c3, c4] at hcall
        clear c3 c4 S1
        go_wp2_with (go_at_fn 241; refine hcall.mono ?_; rintro e w1 ⟨rfl, S2⟩)
        have S2 : Aside (SWK enc k w0 blk off _ w1) := S2
        have hd2 : (swapRange (m - i) (m + j - i) i dk).size = d0.size := by rw [size_swapRange]; exact hds
        go_roundg (i + (j - i))
        case measure => omega
        case rel => exact ⟨i, j - i, K, _, rfl, by rw [show ((j - i : Nat) : Int) = (j : Int) - (i : Int) from by omega], by omega, by omega, by omega, by omega, by omega, Nat.le_refl _, hd2, S2, (show Hid _ from by show _ = _; rw [← HE.out]; conv => rhs; unfold rot; rw [if_neg hij, if_neg hlt])⟩
theorem bs_stop {p : Nat → Bool} {K i j : Nat} (h : ¬ i < j) : bsearch p K i j = i := by
  cases K with
  | zero => rfl
  | succ K => unfold bsearch; rw [if_neg h]
theorem bs_yes {p : Nat → Bool} {K i j : Nat} (h : i < j) (hp : p ((i + j) / 2) = true) : bsearch p (K + 1) i j = bsearch p K ((i + j) / 2 + 1) j := by
  rw [bsearch, if_pos h, if_pos hp]
theorem bs_no {p : Nat → Bool} {K i j : Nat} (h : i < j) (hp : p ((i + j) / 2) = false) : bsearch p (K + 1) i j = bsearch p K i ((i + j) / 2) := by
  rw [bsearch, if_pos h, if_neg (by rw [hp]; decide)]
theorem bs_range (p : Nat → Bool) : ∀ (K i j : Nat), i ≤ j → i ≤ bsearch p K i j ∧ bsearch p K i j ≤ j
  | 0, i, j, h => ⟨Nat.le_refl _, h⟩
  | K + 1, i, j, h => by
    unfold bsearch
    split
    · split
      · have := bs_range p K ((i + j) / 2 + 1) j (by omega)
        omega
      · have := bs_range p K i ((i + j) / 2) (by omega)
        omega
    · omega
theorem sm_one (lt : α → α → Bool) {f a m b : Nat} {d : Array α} (h : m - a = 1) : symMerge lt (f + 1) a m b d = shUp (bsearch (fun h => lt d[h]! d[a]!) (b - m) m b - 1 - a) a d := by
  rw [symMerge, if_pos h]
theorem sm_last (lt : α → α → Bool) {f a m b : Nat} {d : Array α} (h : ¬ m - a = 1) (h2 : b - m = 1) : symMerge lt (f + 1) a m b d = shDn (m - bsearch (fun h => !lt d[m]! d[h]!) (m - a) a m) m d := by
  rw [symMerge, if_neg h, if_pos h2]
def smD1 (m s e : Nat) (d : Array α) : Array α := if s < m ∧ m < e then rot m (m - s + (e - m)) (m - s) (e - m) d else d
def smD2 (lt : α → α → Bool) (f a s mid : Nat) (d : Array α) : Array α := if a < s ∧ s < mid then symMerge lt f a s mid d else d
theorem sm_two (lt : α → α → Bool) {f a m b mid s e : Nat} {d : Array α} (h : ¬ m - a = 1) (h2 : ¬ b - m = 1) (hm : mid = (a + b) / 2) (hs : s = smS lt a m b d) (he : e = mid + m - s) :
    symMerge lt (f + 1) a m b d = smD2 lt f mid e b (smD2 lt f a s mid (smD1 m s e d)) := by
  subst he hs hm
  rw [symMerge, if_neg h, if_neg h2]
  rfl
theorem size_smD1 (m s e : Nat) (d : Array α) : (smD1 m s e d).size = d.size := by unfold smD1; split; exact size_rot _ _ _ _ _; rfl
theorem size_symMerge (lt : α → α → Bool) : ∀ (f a m b : Nat) (d : Array α), (symMerge lt f a m b d).size = d.size
  | 0, _, _, _, _ => rfl
  | f + 1, a, m, b, d => by
    by_cases h : m - a = 1
    · rw [sm_one lt h, size_shUp]
    · by_cases h2 : b - m = 1
      · rw [sm_last lt h h2, size_shDn]
      · rw [sm_two lt h h2 rfl rfl rfl]
        have k : ∀ a s mid (d : Array α), (smD2 lt f a s mid d).size = d.size := fun a s mid d => by unfold smD2; split; exact size_symMerge lt f _ _ _ _; rfl
        rw [k, k, size_smD1]
theorem size_smD2 (lt : α → α → Bool) (f a s mid : Nat) (d : Array α) : (smD2 lt f a s mid d).size = d.size := by unfold smD2; split; exact size_symMerge lt f _ _ _ _; rfl
set_option maxHeartbeats 8000000 in
set_option maxRecDepth 1000000 in
theorem symMerge_one (L : Lays P) (k : Nat) (aE : ∀ w, (isAgg 54).run P w = .ok true w) (zE : ∀ w, (Go.sizeOf 54).run P w = .ok k w) (enc : α → List Value) (cf : α → α → Int) (g : Nat) (cb : Array Value) (blk off cap : Nat) (d0 : Array α) (w0 : World)
    (eg : ∀ args w, (callFunc g args).run P w = .ok (.enter g args) w) (hcmp : CmpLays P g cb enc k cf blk off d0.size w0) (R : RowK enc k w0 blk off d0) (hsz : d0.size < 4611686018427387904) (f a m b : Nat) (d : Array α) (w : World) (hf : b - a ≤ f + 1) (hds : d.size = d0.size) (S : SWK enc k w0 blk off d w) (ham : a < m) (hmb : m < b) (hb : b ≤ d0.size) (hA : m - a = 1) :
    Calls P 208 #[.slice (some ⟨blk, off, none⟩) d0.size cap, .int .i64 a, .int .i64 m, .int .i64 b, .func (.func g) #[] cb] w fun e w' => e = .returned (.tuple #[]) ∧ SWK enc k w0 blk off (symMerge (ltOf cf) (f + 1) a m b d) w' := by
  have mixed := L.mixed; have t0 := L.t0; have a0 := L.a0; have z0 := L.z0; have v0 := L.v0; have t1 := L.t1; have a1 := L.a1; have z1 := L.z1; have v1 := L.v1; have t2 := L.t2; have a2 := L.a2; have z2 := L.z2; have v2 := L.v2; have t3 := L.t3; have a3 := L.a3; have z3 := L.z3; have v3 := L.v3; have t4 := L.t4; have a4 := L.a4; have z4 := L.z4; have v4 := L.v4; have t5 := L.t5; have a5 := L.a5; have z5 := L.z5; have v5 := L.v5
  have HC : Aside (CmpLays P g cb enc k cf blk off d0.size w0) := hcmp
  have eRO : ∀ args w, (callFunc 231 args).run P w = .ok (.enter 231 args) w := enters_of L.fRO (by kernel_rfl) rfl
  have eSY : ∀ args w, (callFunc 208 args).run P w = .ok (.enter 208 args) w := enters_of L.fSY (by kernel_rfl) rfl
  clear hcmp
  have S0 : Aside (SWK enc k w0 blk off d w) := S
  clear S
  have hAz : (m : Int) - (a : Int) = 1 := by omega
  go_enter L.fSY, Try.ntmps208
  go_wp2
  go_loopg [10, 11] (b - m) (fun kx s1 s2 wr => ∃ (i j K : Nat), s1 = .int .i64 i ∧ s2 = .int .i64 j ∧ m ≤ i ∧ i ≤ j ∧ j ≤ b ∧ j - i ≤ kx ∧ j - i ≤ K ∧ Aside (SWK enc k w0 blk off d wr) ∧ Hid (bsearch (fun h => ltOf cf d[h]! d[a]!) K i j = bsearch (fun h => ltOf cf d[h]! d[a]!) (b - m) m b))
  case atStart => exact ⟨m, b, b - m, rfl, rfl, Nat.le_refl _, by omega, Nat.le_refl _, Nat.le_refl _, Nat.le_refl _, S0, rfl⟩
  case round =>
    obtain ⟨i, j, K, rfl, rfl, hi1, hij, hj1, hkx, hK, S1, HE⟩ := hrel
    clear S0
    by_cases hlt : i < j
    · have hltz : (i : Int) < (j : Int) := by omega
      obtain ⟨K, rfl⟩ : ∃ q, K = q + 1 := ⟨K - 1, by omega⟩
      have hh1 : i ≤ (i + j) / 2 ∧ (i + j) / 2 < j := by omega
      cases hL : ltOf cf d[(i + j) / 2]! d[a]! with
      | true =>
        have e1a : (((i : Int) + (j : Int)) / 2).toNat = (i + j) / 2 := by omega
        have p1a : (0 : Int) ≤ ((i : Int) + (j : Int)) / 2 := by omega
        have b1a : ((i : Int) + (j : Int)) / 2 < (d0.size : Int) := by omega
        have r1a : IntKind.i64.wrap (((i : Int) + (j : Int)) / 2) = ((i : Int) + (j : Int)) / 2 := by rw [IntKind.wrap_i64]; omega
        have e1c : ((a : Int)).toNat = a := by omega
        have p1c : (0 : Int) ≤ (a : Int) := by omega
        have b1c : (a : Int) < (d0.size : Int) := by omega
        have r1c : IntKind.i64.wrap ((a : Int)) = (a : Int) := by rw [IntKind.wrap_i64]; omega
        obtain ⟨x1, hx1⟩ : ∃ x, x = d[(i + j) / 2]! := ⟨_, rfl⟩
        obtain ⟨y1, hy1⟩ : ∃ x, x = d[a]! := ⟨_, rfl⟩
        have l1a := S1.out.ld R hds P ((i + j) / 2) (by omega)
        have l1b := S1.out.ld R hds P (a) (by omega)
        rw [← hx1] at l1a
        rw [← hy1] at l1b
        have hc1 := S1.out.cmp HC.out hds x1 y1
        have hv1 : cf x1 y1 < 0 := by rw [hx1, hy1]; exact of_decide_eq_true hL
        have hd1 : decide (cf x1 y1 < 0) = true := decide_eq_true hv1
        clear hx1 hy1
        have HL1 : Aside (_ = _) := hL
        clear hL
        go_wp2_with fail
        go_quiet_grown (first | (go_at_fn g; refine Calls.grown_of (hc1 _ _)))
        have S2 : Aside (SWK enc k w0 blk off d (grow (wr.drewN nq) osq)) := S1.out.grown nq osq
        clear l1a l1b hc1 S1
        generalize grow (wr.drewN nq) osq = w2 at S2 ⊢
        clear nq osq
        have HE2 : Hid (bsearch (fun h => ltOf cf d[h]! d[a]!) K ((i + j) / 2 + 1) j = bsearch (fun h => ltOf cf d[h]! d[a]!) (b - m) m b) := by show _ = _; rw [← HE.out, bs_yes hlt (by show (ltOf cf d[(i + j) / 2]! d[a]!) = true; rw [show ltOf cf d[(i + j) / 2]! d[a]! = true from HL1])]
        go_wp2
        go_roundg (j - ((i + j) / 2 + 1))
        case measure => omega
        case rel => exact ⟨(i + j) / 2 + 1, j, K, by rw [show ((i : Int) + (j : Int)) / 2 + 1 = (((i + j) / 2 + 1 : Nat) : Int) by omega], rfl, by omega, by omega, by omega, Nat.le_refl _, by omega, S2, HE2⟩
      | false =>
        have e1a : (((i : Int) + (j : Int)) / 2).toNat = (i + j) / 2 := by omega
        have p1a : (0 : Int) ≤ ((i : Int) + (j : Int)) / 2 := by omega
        have b1a : ((i : Int) + (j : Int)) / 2 < (d0.size : Int) := by omega
        have r1a : IntKind.i64.wrap (((i : Int) + (j : Int)) / 2) = ((i : Int) + (j : Int)) / 2 := by rw [IntKind.wrap_i64]; omega
        have e1c : ((a : Int)).toNat = a := by omega
        have p1c : (0 : Int) ≤ (a : Int) := by omega
        have b1c : (a : Int) < (d0.size : Int) := by omega
        have r1c : IntKind.i64.wrap ((a : Int)) = (a : Int) := by rw [IntKind.wrap_i64]; omega
        obtain ⟨x1, hx1⟩ : ∃ x, x = d[(i + j) / 2]! := ⟨_, rfl⟩
        obtain ⟨y1, hy1⟩ : ∃ x, x = d[a]! := ⟨_, rfl⟩
        have l1a := S1.out.ld R hds P ((i + j) / 2) (by omega)
        have l1b := S1.out.ld R hds P (a) (by omega)
        rw [← hx1] at l1a
        rw [← hy1] at l1b
        have hc1 := S1.out.cmp HC.out hds x1 y1
        have hv1 : ¬ cf x1 y1 < 0 := by rw [hx1, hy1]; exact of_decide_eq_false hL
        have hd1 : decide (cf x1 y1 < 0) = false := decide_eq_false hv1
        clear hx1 hy1
        have HL1 : Aside (_ = _) := hL
        clear hL
        go_wp2_with fail
        go_quiet_grown (first | (go_at_fn g; refine Calls.grown_of (hc1 _ _)))
        have S2 : Aside (SWK enc k w0 blk off d (grow (wr.drewN nq) osq)) := S1.out.grown nq osq
        clear l1a l1b hc1 S1
        generalize grow (wr.drewN nq) osq = w2 at S2 ⊢
        clear nq osq
        have HE2 : Hid (bsearch (fun h => ltOf cf d[h]! d[a]!) K i ((i + j) / 2) = bsearch (fun h => ltOf cf d[h]! d[a]!) (b - m) m b) := by show _ = _; rw [← HE.out, bs_no hlt (by show (ltOf cf d[(i + j) / 2]! d[a]!) = false; rw [show ltOf cf d[(i + j) / 2]! d[a]! = false from HL1])]
        go_wp2
        go_roundg ((i + j) / 2 - i)
        case measure => omega
        case rel => exact ⟨i, (i + j) / 2, K, rfl, by rw [show ((i : Int) + (j : Int)) / 2 = (((i + j) / 2 : Nat) : Int) by omega], by omega, by omega, by omega, Nat.le_refl _, by omega, S2, HE2⟩
    · have hltz : ¬ (i : Int) < (j : Int) := by omega
      have hbs : bsearch (fun h => ltOf cf d[h]! d[a]!) (b - m) m b = i := by rw [← HE.out]; exact bs_stop hlt
      have HBS : Hid _ := hbs
      clear hbs HE
      have hi2 : 1 ≤ i := by omega
      go_wp2
      go_loopg [13] (i - 1 - a) (fun kx s1 wr => ∃ (x : Nat) (dk : Array α), s1 = .int .i64 x ∧ a ≤ x ∧ x ≤ i - 1 ∧ i - 1 - x ≤ kx ∧ dk.size = d0.size ∧ Aside (SWK enc k w0 blk off dk wr) ∧ Hid (shUp (i - 1 - x) x dk = shUp (i - 1 - a) a d))
      case atStart => exact ⟨a, d, rfl, Nat.le_refl _, by omega, Nat.le_refl _, hds, S1, rfl⟩
      case round =>
        obtain ⟨x, dk, rfl, hx1, hx2, hkx2, hds, S2, HE⟩ := hrel
        clear S1
        by_cases hlt2 : x < i - 1
        · have hltz2 : (x : Int) < (i : Int) - 1 := by omega
          have e2a : ((x : Int)).toNat = x := by omega
          have p2a : (0 : Int) ≤ (x : Int) := by omega
          have b2a : (x : Int) < (d0.size : Int) := by omega
          have r2a : IntKind.i64.wrap ((x : Int)) = (x : Int) := by rw [IntKind.wrap_i64]; omega
          have e2c : ((x : Int) + 1).toNat = x + 1 := by omega
          have p2c : (0 : Int) ≤ (x : Int) + 1 := by omega
          have b2c : (x : Int) + 1 < (d0.size : Int) := by omega
          have r2c : IntKind.i64.wrap ((x : Int) + 1) = (x : Int) + 1 := by rw [IntKind.wrap_i64]; omega
          have S3 : Aside (SWK enc k w0 blk off (swp dk (x) (x + 1)) ((wr.drew.setCells blk (off + (x) * k) (enc dk[x + 1]!)).setCells blk (off + (x + 1) * k) (enc dk[x]!))) := S2.out.swapped R (x) (x + 1) (by omega) (by omega)
          have l2a := S2.out.ld1 R hds P (x) (by omega)
          have l2b := S2.out.ld1 R hds P (x + 1) (by omega)
          have s2a := S2.out.st1 R hds P (x) (by omega) dk[x + 1]!
          have s2b := S2.out.st2 R hds P (x) (x + 1) (by omega) (by omega) dk[x + 1]! dk[x]!
          have n2a : (enc dk[x]!).length = k := R.hk _
          have n2b : (enc dk[x + 1]!).length = k := R.hk _
          generalize enc dk[x]! = cI2 at S3 l2a s2b n2a
          generalize enc dk[x + 1]! = cJ2 at S3 l2b s2a s2b n2b
          clear S2
          go_wp2_with fail
          go_big_region_o
          clear l2a l2b s2a s2b
          generalize (wr.drew.setCells blk (off + (x) * k) cJ2).setCells blk (off + (x + 1) * k) cI2 = w3 at S3 ⊢
          go_wp2
          go_roundg (i - 1 - (x + 1))
          case measure => omega
          case rel => exact ⟨x + 1, swp dk x (x + 1), by go_num, by omega, by omega, Nat.le_refl _, by rw [size_swp]; exact hds, S3, (show Hid _ from by show _ = _; rw [← HE.out, show i - 1 - x = (i - 1 - (x + 1)) + 1 from by omega]; rfl)⟩
        · have hltz2 : ¬ (x : Int) < (i : Int) - 1 := by omega
          go_wp2
          (try simp only [Exit.inBlock, Exit.then]); refine bodyPost_ret (results_none rfl _ _ _) rfl ?_
          refine ⟨rfl, ?_⟩
          have e : dk = symMerge (ltOf cf) (f + 1) a m b d := by rw [sm_one _ hA, HBS.out, ← HE.out, show i - 1 - x = 0 from by omega]; rfl
          rw [← e]
          exact S2.out
set_option maxHeartbeats 8000000 in
set_option maxRecDepth 1000000 in
theorem symMerge_last (L : Lays P) (k : Nat) (aE : ∀ w, (isAgg 54).run P w = .ok true w) (zE : ∀ w, (Go.sizeOf 54).run P w = .ok k w) (enc : α → List Value) (cf : α → α → Int) (g : Nat) (cb : Array Value) (blk off cap : Nat) (d0 : Array α) (w0 : World)
    (eg : ∀ args w, (callFunc g args).run P w = .ok (.enter g args) w) (hcmp : CmpLays P g cb enc k cf blk off d0.size w0) (R : RowK enc k w0 blk off d0) (hsz : d0.size < 4611686018427387904) (f a m b : Nat) (d : Array α) (w : World) (hf : b - a ≤ f + 1) (hds : d.size = d0.size) (S : SWK enc k w0 blk off d w) (ham : a < m) (hmb : m < b) (hb : b ≤ d0.size) (hA : ¬ m - a = 1) (hB : b - m = 1) :
    Calls P 208 #[.slice (some ⟨blk, off, none⟩) d0.size cap, .int .i64 a, .int .i64 m, .int .i64 b, .func (.func g) #[] cb] w fun e w' => e = .returned (.tuple #[]) ∧ SWK enc k w0 blk off (symMerge (ltOf cf) (f + 1) a m b d) w' := by
  have mixed := L.mixed; have t0 := L.t0; have a0 := L.a0; have z0 := L.z0; have v0 := L.v0; have t1 := L.t1; have a1 := L.a1; have z1 := L.z1; have v1 := L.v1; have t2 := L.t2; have a2 := L.a2; have z2 := L.z2; have v2 := L.v2; have t3 := L.t3; have a3 := L.a3; have z3 := L.z3; have v3 := L.v3; have t4 := L.t4; have a4 := L.a4; have z4 := L.z4; have v4 := L.v4; have t5 := L.t5; have a5 := L.a5; have z5 := L.z5; have v5 := L.v5
  have HC : Aside (CmpLays P g cb enc k cf blk off d0.size w0) := hcmp
  have eRO : ∀ args w, (callFunc 231 args).run P w = .ok (.enter 231 args) w := enters_of L.fRO (by kernel_rfl) rfl
  have eSY : ∀ args w, (callFunc 208 args).run P w = .ok (.enter 208 args) w := enters_of L.fSY (by kernel_rfl) rfl
  clear hcmp
  have S0 : Aside (SWK enc k w0 blk off d w) := S
  clear S
  have hAz : ¬ (m : Int) - (a : Int) = 1 := by omega
  have hAb : ((m : Int) - (a : Int) == 1) = false := beq_eq_false_iff_ne.mpr hAz
  have hBz : (b : Int) - (m : Int) = 1 := by omega
  go_enter L.fSY, Try.ntmps208
  go_wp2
  go_loopg [14, 15] (m - a) (fun kx s1 s2 wr => ∃ (i j K : Nat), s1 = .int .i64 i ∧ s2 = .int .i64 j ∧ a ≤ i ∧ i ≤ j ∧ j ≤ m ∧ j - i ≤ kx ∧ j - i ≤ K ∧ Aside (SWK enc k w0 blk off d wr) ∧ Hid (bsearch (fun h => !ltOf cf d[m]! d[h]!) K i j = bsearch (fun h => !ltOf cf d[m]! d[h]!) (m - a) a m))
  case atStart => exact ⟨a, m, m - a, rfl, rfl, Nat.le_refl _, by omega, Nat.le_refl _, Nat.le_refl _, Nat.le_refl _, S0, rfl⟩
  case round =>
    obtain ⟨i, j, K, rfl, rfl, hi1, hij, hj1, hkx, hK, S1, HE⟩ := hrel
    clear S0
    by_cases hlt : i < j
    · have hltz : (i : Int) < (j : Int) := by omega
      obtain ⟨K, rfl⟩ : ∃ q, K = q + 1 := ⟨K - 1, by omega⟩
      have hh1 : i ≤ (i + j) / 2 ∧ (i + j) / 2 < j := by omega
      cases hL : ltOf cf d[m]! d[(i + j) / 2]! with
      | true =>
        have e1a : ((m : Int)).toNat = m := by omega
        have p1a : (0 : Int) ≤ (m : Int) := by omega
        have b1a : (m : Int) < (d0.size : Int) := by omega
        have r1a : IntKind.i64.wrap ((m : Int)) = (m : Int) := by rw [IntKind.wrap_i64]; omega
        have e1c : (((i : Int) + (j : Int)) / 2).toNat = (i + j) / 2 := by omega
        have p1c : (0 : Int) ≤ ((i : Int) + (j : Int)) / 2 := by omega
        have b1c : ((i : Int) + (j : Int)) / 2 < (d0.size : Int) := by omega
        have r1c : IntKind.i64.wrap (((i : Int) + (j : Int)) / 2) = ((i : Int) + (j : Int)) / 2 := by rw [IntKind.wrap_i64]; omega
        obtain ⟨x1, hx1⟩ : ∃ x, x = d[m]! := ⟨_, rfl⟩
        obtain ⟨y1, hy1⟩ : ∃ x, x = d[(i + j) / 2]! := ⟨_, rfl⟩
        have l1a := S1.out.ld R hds P (m) (by omega)
        have l1b := S1.out.ld R hds P ((i + j) / 2) (by omega)
        rw [← hx1] at l1a
        rw [← hy1] at l1b
        have hc1 := S1.out.cmp HC.out hds x1 y1
        have hv1 : cf x1 y1 < 0 := by rw [hx1, hy1]; exact of_decide_eq_true hL
        have hd1 : decide (cf x1 y1 < 0) = true := decide_eq_true hv1
        clear hx1 hy1
        have HL1 : Aside (_ = _) := hL
        clear hL
        go_wp2_with fail
        go_quiet_grown (first | (go_at_fn g; refine Calls.grown_of (hc1 _ _)))
        have S2 : Aside (SWK enc k w0 blk off d (grow (wr.drewN nq) osq)) := S1.out.grown nq osq
        clear l1a l1b hc1 S1
        generalize grow (wr.drewN nq) osq = w2 at S2 ⊢
        clear nq osq
        have HE2 : Hid (bsearch (fun h => !ltOf cf d[m]! d[h]!) K i ((i + j) / 2) = bsearch (fun h => !ltOf cf d[m]! d[h]!) (m - a) a m) := by show _ = _; rw [← HE.out, bs_no hlt (by show (!ltOf cf d[m]! d[(i + j) / 2]!) = false; rw [show ltOf cf d[m]! d[(i + j) / 2]! = true from HL1]; rfl)]
        go_wp2
        go_roundg ((i + j) / 2 - i)
        case measure => omega
        case rel => exact ⟨i, (i + j) / 2, K, rfl, by rw [show ((i : Int) + (j : Int)) / 2 = (((i + j) / 2 : Nat) : Int) by omega], by omega, by omega, by omega, Nat.le_refl _, by omega, S2, HE2⟩
      | false =>
        have e1a : ((m : Int)).toNat = m := by omega
        have p1a : (0 : Int) ≤ (m : Int) := by omega
        have b1a : (m : Int) < (d0.size : Int) := by omega
        have r1a : IntKind.i64.wrap ((m : Int)) = (m : Int) := by rw [IntKind.wrap_i64]; omega
        have e1c : (((i : Int) + (j : Int)) / 2).toNat = (i + j) / 2 := by omega
        have p1c : (0 : Int) ≤ ((i : Int) + (j : Int)) / 2 := by omega
        have b1c : ((i : Int) + (j : Int)) / 2 < (d0.size : Int) := by omega
        have r1c : IntKind.i64.wrap (((i : Int) + (j : Int)) / 2) = ((i : Int) + (j : Int)) / 2 := by rw [IntKind.wrap_i64]; omega
        obtain ⟨x1, hx1⟩ : ∃ x, x = d[m]! := ⟨_, rfl⟩
        obtain ⟨y1, hy1⟩ : ∃ x, x = d[(i + j) / 2]! := ⟨_, rfl⟩
        have l1a := S1.out.ld R hds P (m) (by omega)
        have l1b := S1.out.ld R hds P ((i + j) / 2) (by omega)
        rw [← hx1] at l1a
        rw [← hy1] at l1b
        have hc1 := S1.out.cmp HC.out hds x1 y1
        have hv1 : ¬ cf x1 y1 < 0 := by rw [hx1, hy1]; exact of_decide_eq_false hL
        have hd1 : decide (cf x1 y1 < 0) = false := decide_eq_false hv1
        clear hx1 hy1
        have HL1 : Aside (_ = _) := hL
        clear hL
        go_wp2_with fail
        go_quiet_grown (first | (go_at_fn g; refine Calls.grown_of (hc1 _ _)))
        have S2 : Aside (SWK enc k w0 blk off d (grow (wr.drewN nq) osq)) := S1.out.grown nq osq
        clear l1a l1b hc1 S1
        generalize grow (wr.drewN nq) osq = w2 at S2 ⊢
        clear nq osq
        have HE2 : Hid (bsearch (fun h => !ltOf cf d[m]! d[h]!) K ((i + j) / 2 + 1) j = bsearch (fun h => !ltOf cf d[m]! d[h]!) (m - a) a m) := by show _ = _; rw [← HE.out, bs_yes hlt (by show (!ltOf cf d[m]! d[(i + j) / 2]!) = true; rw [show ltOf cf d[m]! d[(i + j) / 2]! = false from HL1]; rfl)]
        go_wp2
        go_roundg (j - ((i + j) / 2 + 1))
        case measure => omega
        case rel => exact ⟨(i + j) / 2 + 1, j, K, by rw [show ((i : Int) + (j : Int)) / 2 + 1 = (((i + j) / 2 + 1 : Nat) : Int) by omega], rfl, by omega, by omega, by omega, Nat.le_refl _, by omega, S2, HE2⟩
    · have hltz : ¬ (i : Int) < (j : Int) := by omega
      have hbs : bsearch (fun h => !ltOf cf d[m]! d[h]!) (m - a) a m = i := by rw [← HE.out]; exact bs_stop hlt
      have HBS : Hid _ := hbs
      clear hbs HE
      go_wp2
      go_loopg [17] (m - i) (fun kx s1 wr => ∃ (x : Nat) (dk : Array α), s1 = .int .i64 x ∧ i ≤ x ∧ x ≤ m ∧ x - i ≤ kx ∧ dk.size = d0.size ∧ Aside (SWK enc k w0 blk off dk wr) ∧ Hid (shDn (x - i) x dk = shDn (m - i) m d))
      case atStart => exact ⟨m, d, rfl, by omega, Nat.le_refl _, Nat.le_refl _, hds, S1, rfl⟩
      case round =>
        obtain ⟨x, dk, rfl, hx1, hx2, hkx2, hds, S2, HE⟩ := hrel
        clear S1
        by_cases hlt2 : i < x
        · have hltz2 : (x : Int) > (i : Int) := by omega
          have hltz3 : (i : Int) < (x : Int) := by omega
          have e2a : ((x : Int)).toNat = x := by omega
          have p2a : (0 : Int) ≤ (x : Int) := by omega
          have b2a : (x : Int) < (d0.size : Int) := by omega
          have r2a : IntKind.i64.wrap ((x : Int)) = (x : Int) := by rw [IntKind.wrap_i64]; omega
          have e2c : ((x : Int) - 1).toNat = x - 1 := by omega
          have p2c : (0 : Int) ≤ (x : Int) - 1 := by omega
          have b2c : (x : Int) - 1 < (d0.size : Int) := by omega
          have r2c : IntKind.i64.wrap ((x : Int) - 1) = (x : Int) - 1 := by rw [IntKind.wrap_i64]; omega
          have S3 : Aside (SWK enc k w0 blk off (swp dk (x) (x - 1)) ((wr.drew.setCells blk (off + (x) * k) (enc dk[x - 1]!)).setCells blk (off + (x - 1) * k) (enc dk[x]!))) := S2.out.swapped R (x) (x - 1) (by omega) (by omega)
          have l2a := S2.out.ld1 R hds P (x) (by omega)
          have l2b := S2.out.ld1 R hds P (x - 1) (by omega)
          have s2a := S2.out.st1 R hds P (x) (by omega) dk[x - 1]!
          have s2b := S2.out.st2 R hds P (x) (x - 1) (by omega) (by omega) dk[x - 1]! dk[x]!
          have n2a : (enc dk[x]!).length = k := R.hk _
          have n2b : (enc dk[x - 1]!).length = k := R.hk _
          generalize enc dk[x]! = cI2 at S3 l2a s2b n2a
          generalize enc dk[x - 1]! = cJ2 at S3 l2b s2a s2b n2b
          clear S2
          go_wp2_with fail
          go_big_region_o
          clear l2a l2b s2a s2b
          generalize (wr.drew.setCells blk (off + (x) * k) cJ2).setCells blk (off + (x - 1) * k) cI2 = w3 at S3 ⊢
          go_wp2
          go_roundg (x - 1 - i)
          case measure => omega
          case rel => exact ⟨x - 1, swp dk x (x - 1), by rw [show ((x - 1 : Nat) : Int) = (x : Int) - 1 from by omega], by omega, by omega, Nat.le_refl _, by rw [size_swp]; exact hds, S3, (show Hid _ from by show _ = _; rw [← HE.out, show x - i = (x - 1 - i) + 1 from by omega]; rfl)⟩
        · have hltz2 : ¬ (x : Int) > (i : Int) := by omega
          have hltz3 : ¬ (i : Int) < (x : Int) := by omega
          go_wp2
          (try simp only [Exit.inBlock, Exit.then]); refine bodyPost_ret (results_none rfl _ _ _) rfl ?_
          refine ⟨rfl, ?_⟩
          have e : dk = symMerge (ltOf cf) (f + 1) a m b d := by rw [sm_last _ hA hB, HBS.out, ← HE.out, show x - i = 0 from by omega]; rfl
          rw [← e]
          exact S2.out
set_option maxHeartbeats 8000000 in
set_option maxRecDepth 1000000 in
theorem symMerge_two (L : Lays P) (k : Nat) (aE : ∀ w, (isAgg 54).run P w = .ok true w) (zE : ∀ w, (Go.sizeOf 54).run P w = .ok k w) (enc : α → List Value) (cf : α → α → Int) (g : Nat) (cb : Array Value) (blk off cap : Nat) (d0 : Array α) (w0 : World)
    (eg : ∀ args w, (callFunc g args).run P w = .ok (.enter g args) w) (hcmp : CmpLays P g cb enc k cf blk off d0.size w0) (R : RowK enc k w0 blk off d0) (hsz : d0.size < 4611686018427387904) (f a m b : Nat) (d : Array α) (w : World) (ih : ∀ (a m b : Nat) (d : Array α) (w : World), b - a ≤ f → d.size = d0.size → SWK enc k w0 blk off d w → a < m → m < b → b ≤ d0.size →
    Calls P 208 #[.slice (some ⟨blk, off, none⟩) d0.size cap, .int .i64 a, .int .i64 m, .int .i64 b, .func (.func g) #[] cb] w fun e w' => e = .returned (.tuple #[]) ∧ SWK enc k w0 blk off (symMerge (ltOf cf) f a m b d) w') (hf : b - a ≤ f + 1) (hds : d.size = d0.size) (S : SWK enc k w0 blk off d w) (ham : a < m) (hmb : m < b) (hb : b ≤ d0.size) (hA : ¬ m - a = 1) (hB : ¬ b - m = 1) :
    Calls P 208 #[.slice (some ⟨blk, off, none⟩) d0.size cap, .int .i64 a, .int .i64 m, .int .i64 b, .func (.func g) #[] cb] w fun e w' => e = .returned (.tuple #[]) ∧ SWK enc k w0 blk off (symMerge (ltOf cf) (f + 1) a m b d) w' := by
  have mixed := L.mixed; have t0 := L.t0; have a0 := L.a0; have z0 := L.z0; have v0 := L.v0; have t1 := L.t1; have a1 := L.a1; have z1 := L.z1; have v1 := L.v1; have t2 := L.t2; have a2 := L.a2; have z2 := L.z2; have v2 := L.v2; have t3 := L.t3; have a3 := L.a3; have z3 := L.z3; have v3 := L.v3; have t4 := L.t4; have a4 := L.a4; have z4 := L.z4; have v4 := L.v4; have t5 := L.t5; have a5 := L.a5; have z5 := L.z5; have v5 := L.v5
  have HC : Aside (CmpLays P g cb enc k cf blk off d0.size w0) := hcmp
  have eRO : ∀ args w, (callFunc 231 args).run P w = .ok (.enter 231 args) w := enters_of L.fRO (by kernel_rfl) rfl
  have eSY : ∀ args w, (callFunc 208 args).run P w = .ok (.enter 208 args) w := enters_of L.fSY (by kernel_rfl) rfl
  clear hcmp
  have S0 : Aside (SWK enc k w0 blk off d w) := S
  clear S
  have IH : Aside (∀ (a m b : Nat) (d : Array α) (w : World), b - a ≤ f → d.size = d0.size → SWK enc k w0 blk off d w → a < m → m < b → b ≤ d0.size →
      Calls P 208 #[.slice (some ⟨blk, off, none⟩) d0.size cap, .int .i64 a, .int .i64 m, .int .i64 b, .func (.func g) #[] cb] w fun e w' => e = .returned (.tuple #[]) ∧ SWK enc k w0 blk off (symMerge (ltOf cf) f a m b d) w') := ih
  clear ih
  have hAz : ¬ (m : Int) - (a : Int) = 1 := by omega
  have hAb : ((m : Int) - (a : Int) == 1) = false := beq_eq_false_iff_ne.mpr hAz
  have hBz : ¬ (b : Int) - (m : Int) = 1 := by omega
  have hBb : ((b : Int) - (m : Int) == 1) = false := beq_eq_false_iff_ne.mpr hBz
  obtain ⟨mid, hmid⟩ : ∃ q, q = (a + b) / 2 := ⟨_, rfl⟩
  have hmz : ((a : Int) + (b : Int)) / 2 = (mid : Int) := by omega
  have hm1 : a < mid := by omega
  have hm2 : mid < b := by omega
  have hm3 : 2 * mid ≤ a + b := by omega
  have HM : Hid (mid = (a + b) / 2) := hmid
  clear hmid
  go_enter L.fSY, Try.ntmps208
  go_upto_if 140 with fail
  go_cut [20, 21] from 138 to 146 (fun s20 s21 wx => s20 = .int .i64 (smStart a m b : Nat) ∧ s21 = .int .i64 (smR a m b : Nat) ∧ wx = w)
  case first =>
    by_cases hgt : mid < m
    · have hgz : (m : Int) > (mid : Int) := by omega
      have hgz2 : (mid : Int) < (m : Int) := by omega
      have e1 : ((smStart a m b : Nat) : Int) = (mid : Int) + (m : Int) - (b : Int) := by unfold smStart; rw [← HM.out, if_pos hgt]; omega
      have e2 : ((smR a m b : Nat) : Int) = (mid : Int) := by unfold smR; rw [← HM.out, if_pos hgt]
      go_wp2_with fail
      go_meet
      case rel => exact ⟨by rw [e1], by rw [e2], rfl⟩
    · have hgz : ¬ (m : Int) > (mid : Int) := by omega
      have hgz2 : ¬ (mid : Int) < (m : Int) := by omega
      have e1 : ((smStart a m b : Nat) : Int) = (a : Int) := by unfold smStart; rw [← HM.out, if_neg hgt]
      have e2 : ((smR a m b : Nat) : Int) = (m : Int) := by unfold smR; rw [← HM.out, if_neg hgt]
      go_wp2_with fail
      go_meet
      case rel => exact ⟨by rw [e1], by rw [e2], rfl⟩
  case rest =>
    obtain ⟨rfl, rfl, rfl⟩ := hcut
    have g1 : a ≤ smStart a m b ∧ smStart a m b ≤ smR a m b ∧ mid + m ≤ smStart a m b + b ∧ smR a m b ≤ mid ∧ smR a m b ≤ m := by
      unfold smStart smR
      rw [← HM.out]
      by_cases hgt : mid < m
      · rw [if_pos hgt, if_pos hgt]; omega
      · rw [if_neg hgt, if_neg hgt]; omega
    have HS : Hid (smS (ltOf cf) a m b d = bsearch (fun c => !ltOf cf d[mid + m - 1 - c]! d[c]!) (smR a m b - smStart a m b) (smStart a m b) (smR a m b)) := by
      show _ = _
      unfold smS
      rw [← HM.out]
    obtain ⟨st, hst⟩ : ∃ q, q = smStart a m b := ⟨_, rfl⟩
    obtain ⟨r, hr⟩ : ∃ q, q = smR a m b := ⟨_, rfl⟩
    rw [← hst, ← hr] at g1 HS ⊢
    clear hst hr
    obtain ⟨g1, g2, g3, g4, g5⟩ := g1
    go_wp2
    go_loopg [20, 21] (r - st) (fun kx s1 s2 wr => ∃ (i j K : Nat), s1 = .int .i64 i ∧ s2 = .int .i64 j ∧ st ≤ i ∧ i ≤ j ∧ j ≤ r ∧ j - i ≤ kx ∧ j - i ≤ K ∧ Aside (SWK enc k w0 blk off d wr) ∧ Hid (bsearch (fun c => !ltOf cf d[mid + m - 1 - c]! d[c]!) K i j = bsearch (fun c => !ltOf cf d[mid + m - 1 - c]! d[c]!) (r - st) st r))
    case atStart => exact ⟨st, r, r - st, rfl, rfl, Nat.le_refl _, by omega, Nat.le_refl _, Nat.le_refl _, Nat.le_refl _, S0, rfl⟩
    case round =>
      obtain ⟨i, j, K, rfl, rfl, hi1, hij, hj1, hkx, hK, S1, HE⟩ := hrel
      clear S0
      by_cases hlt : i < j
      · have hltz : (i : Int) < (j : Int) := by omega
        obtain ⟨K, rfl⟩ : ∃ q, K = q + 1 := ⟨K - 1, by omega⟩
        have hh1 : i ≤ (i + j) / 2 ∧ (i + j) / 2 < j := by omega
        obtain ⟨q, hq⟩ : ∃ q, q = mid + m - 1 - (i + j) / 2 := ⟨_, rfl⟩
        have hqz : IntKind.i64.wrap ((mid : Int) + (m : Int) - 1 - ((i : Int) + (j : Int)) / 2) = (q : Int) := by rw [IntKind.wrap_i64]; omega
        have hqb : q < d0.size := by omega
        have HQ : Hid (q = mid + m - 1 - (i + j) / 2) := hq
        clear hq
        cases hL : ltOf cf d[q]! d[(i + j) / 2]! with
        | true =>
          have e1a : ((q : Int)).toNat = q := by omega
          have p1a : (0 : Int) ≤ (q : Int) := by omega
          have b1a : (q : Int) < (d0.size : Int) := by omega
          have r1a : IntKind.i64.wrap ((q : Int)) = (q : Int) := by rw [IntKind.wrap_i64]; omega
          have e1c : (((i : Int) + (j : Int)) / 2).toNat = (i + j) / 2 := by omega
          have p1c : (0 : Int) ≤ ((i : Int) + (j : Int)) / 2 := by omega
          have b1c : ((i : Int) + (j : Int)) / 2 < (d0.size : Int) := by omega
          have r1c : IntKind.i64.wrap (((i : Int) + (j : Int)) / 2) = ((i : Int) + (j : Int)) / 2 := by rw [IntKind.wrap_i64]; omega
          obtain ⟨x1, hx1⟩ : ∃ x, x = d[q]! := ⟨_, rfl⟩
          obtain ⟨y1, hy1⟩ : ∃ x, x = d[(i + j) / 2]! := ⟨_, rfl⟩
          have l1a := S1.out.ld R hds P (q) (by omega)
          have l1b := S1.out.ld R hds P ((i + j) / 2) (by omega)
          rw [← hx1] at l1a
          rw [← hy1] at l1b
          have hc1 := S1.out.cmp HC.out hds x1 y1
          have hv1 : cf x1 y1 < 0 := by rw [hx1, hy1]; exact of_decide_eq_true hL
          have hd1 : decide (cf x1 y1 < 0) = true := decide_eq_true hv1
          clear hx1 hy1
          have HL1 : Aside (_ = _) := hL
          clear hL
          go_wp2_with fail
          go_quiet_grown (first | (go_at_fn g; refine Calls.grown_of (hc1 _ _)))
          have S2 : Aside (SWK enc k w0 blk off d (grow (wr.drewN nq) osq)) := S1.out.grown nq osq
          clear l1a l1b hc1 S1
          generalize grow (wr.drewN nq) osq = w2 at S2 ⊢
          clear nq osq
          have HE2 : Hid (bsearch (fun c => !ltOf cf d[mid + m - 1 - c]! d[c]!) K i ((i + j) / 2) = bsearch (fun c => !ltOf cf d[mid + m - 1 - c]! d[c]!) (r - st) st r) := by show _ = _; rw [← HE.out, bs_no hlt (by show (!ltOf cf d[mid + m - 1 - (i + j) / 2]! d[(i + j) / 2]!) = false; rw [← HQ.out, show ltOf cf d[q]! d[(i + j) / 2]! = true from HL1]; rfl)]
          go_wp2
          go_roundg ((i + j) / 2 - i)
          case measure => omega
          case rel => exact ⟨i, (i + j) / 2, K, rfl, by rw [show ((i : Int) + (j : Int)) / 2 = (((i + j) / 2 : Nat) : Int) by omega], by omega, by omega, by omega, Nat.le_refl _, by omega, S2, HE2⟩
        | false =>
          have e1a : ((q : Int)).toNat = q := by omega
          have p1a : (0 : Int) ≤ (q : Int) := by omega
          have b1a : (q : Int) < (d0.size : Int) := by omega
          have r1a : IntKind.i64.wrap ((q : Int)) = (q : Int) := by rw [IntKind.wrap_i64]; omega
          have e1c : (((i : Int) + (j : Int)) / 2).toNat = (i + j) / 2 := by omega
          have p1c : (0 : Int) ≤ ((i : Int) + (j : Int)) / 2 := by omega
          have b1c : ((i : Int) + (j : Int)) / 2 < (d0.size : Int) := by omega
          have r1c : IntKind.i64.wrap (((i : Int) + (j : Int)) / 2) = ((i : Int) + (j : Int)) / 2 := by rw [IntKind.wrap_i64]; omega
          obtain ⟨x1, hx1⟩ : ∃ x, x = d[q]! := ⟨_, rfl⟩
          obtain ⟨y1, hy1⟩ : ∃ x, x = d[(i + j) / 2]! := ⟨_, rfl⟩
          have l1a := S1.out.ld R hds P (q) (by omega)
          have l1b := S1.out.ld R hds P ((i + j) / 2) (by omega)
          rw [← hx1] at l1a
          rw [← hy1] at l1b
          have hc1 := S1.out.cmp HC.out hds x1 y1
          have hv1 : ¬ cf x1 y1 < 0 := by rw [hx1, hy1]; exact of_decide_eq_false hL
          have hd1 : decide (cf x1 y1 < 0) = false := decide_eq_false hv1
          clear hx1 hy1
          have HL1 : Aside (_ = _) := hL
          clear hL
          go_wp2_with fail
          go_quiet_grown (first | (go_at_fn g; refine Calls.grown_of (hc1 _ _)))
          have S2 : Aside (SWK enc k w0 blk off d (grow (wr.drewN nq) osq)) := S1.out.grown nq osq
          clear l1a l1b hc1 S1
          generalize grow (wr.drewN nq) osq = w2 at S2 ⊢
          clear nq osq
          have HE2 : Hid (bsearch (fun c => !ltOf cf d[mid + m - 1 - c]! d[c]!) K ((i + j) / 2 + 1) j = bsearch (fun c => !ltOf cf d[mid + m - 1 - c]! d[c]!) (r - st) st r) := by show _ = _; rw [← HE.out, bs_yes hlt (by show (!ltOf cf d[mid + m - 1 - (i + j) / 2]! d[(i + j) / 2]!) = true; rw [← HQ.out, show ltOf cf d[q]! d[(i + j) / 2]! = false from HL1]; rfl)]
          go_wp2
          go_roundg (j - ((i + j) / 2 + 1))
          case measure => omega
          case rel => exact ⟨(i + j) / 2 + 1, j, K, by rw [show ((i : Int) + (j : Int)) / 2 + 1 = (((i + j) / 2 + 1 : Nat) : Int) by omega], rfl, by omega, by omega, by omega, Nat.le_refl _, by omega, S2, HE2⟩
      · have hltz : ¬ (i : Int) < (j : Int) := by omega
        have hbs : bsearch (fun c => !ltOf cf d[mid + m - 1 - c]! d[c]!) (r - st) st r = i := by rw [← HE.out]; exact bs_stop hlt
        have HBS : Hid _ := hbs
        clear hbs HE
        have hsS : smS (ltOf cf) a m b d = i := by rw [HS.out, HBS.out]
        obtain ⟨e, hE⟩ : ∃ q, q = mid + m - i := ⟨_, rfl⟩
        have hez : (mid : Int) + (m : Int) - (i : Int) = (e : Int) := by omega
        have he1 : mid ≤ e := by omega
        have he2 : m ≤ e := by omega
        have he3 : e ≤ b := by omega
        have HT : Hid (symMerge (ltOf cf) (f + 1) a m b d = smD2 (ltOf cf) f mid e b (smD2 (ltOf cf) f a i mid (smD1 m i e d))) := sm_two _ hA hB HM.out hsS.symm hE
        have him : i ≤ m := by omega
        have himid : i ≤ mid := by omega
        have hai : a ≤ i := by omega
        clear hsS hE HBS HS hAz hBz hmz
        have hd1 : (smD1 m i e d).size = d0.size := by rw [size_smD1]; exact hds
        have hd2 : (smD2 (ltOf cf) f a i mid (smD1 m i e d)).size = d0.size := by rw [size_smD2]; exact hd1
        go_upto_region 39 with fail
        go_cut [185] from 178 to 185 (fun c wx => c = .bool (decide (i < m ∧ m < e)) ∧ wx = wr)
        case first =>
          by_cases c1 : i < m
          · have c1z : (i : Int) < (m : Int) := by omega
            by_cases c2 : m < e
            · have c2z : (m : Int) < (e : Int) := by omega
              have c3 : decide (i < m ∧ m < e) = true := decide_eq_true ⟨c1, c2⟩
              go_wp2_with fail
              go_meet
              case rel => exact ⟨by rw [c3], rfl⟩
            · have c2z : ¬ (m : Int) < (e : Int) := by omega
              have c3 : decide (i < m ∧ m < e) = false := decide_eq_false (fun h => c2 h.2)
              go_wp2_with fail
              go_meet
              case rel => exact ⟨by rw [c3], rfl⟩
          · have c1z : ¬ (i : Int) < (m : Int) := by omega
            have c3 : decide (i < m ∧ m < e) = false := decide_eq_false (fun h => c1 h.1)
            go_wp2_with fail
            go_meet
            case rel => exact ⟨by rw [c3], rfl⟩
        case rest =>
        obtain ⟨rfl, rfl⟩ := hcut
        go_upto_if 185 with fail
        go_cut [] from 178 to 191 (fun wx => SWK enc k w0 blk off (smD1 m i e d) wx)
        case first =>
          by_cases c : i < m ∧ m < e
          · have cbz : decide (i < m ∧ m < e) = true := decide_eq_true c
            have hcall := rot_w L k aE zE enc cf g cb blk off cap d0 w0 eg HC.out R hsz i m e d wc hds S1.out c.1 c.2 (by omega)
            rw [show rot m (m - i + (e - m)) (m - i) (e - m) d = smD1 m i e d from (if_pos c).symm] at hcall
            go_wp2_with (go_at_fn 231; refine hcall.mono ?_; rintro e w1 ⟨rfl, S2⟩)
            go_meet
            case rel => exact S2
          · have cbz : decide (i < m ∧ m < e) = false := decide_eq_false c
            have e1 : smD1 m i e d = d := if_neg c
            go_wp2_with fail
            go_meet
            case rel => rw [e1]; exact S1.out
        case rest =>
          have S3 : Aside (SWK enc k w0 blk off (smD1 m i e d) wc) := hcut
          clear S1 hcut
          go_upto_region 41 with fail
          generalize hw4 : wc = wc4 at S3
          go_cut [199] from 192 to 199 (fun c wx => c = .bool (decide (a < i ∧ i < mid)) ∧ wx = wc4)
          case first =>
            subst hw4
            by_cases c1 : a < i
            · have c1z : (a : Int) < (i : Int) := by omega
              by_cases c2 : i < mid
              · have c2z : (i : Int) < (mid : Int) := by omega
                have c3 : decide (a < i ∧ i < mid) = true := decide_eq_true ⟨c1, c2⟩
                go_wp2_with fail
                go_meet
                case rel => exact ⟨by rw [c3], rfl⟩
              · have c2z : ¬ (i : Int) < (mid : Int) := by omega
                have c3 : decide (a < i ∧ i < mid) = false := decide_eq_false (fun h => c2 h.2)
                go_wp2_with fail
                go_meet
                case rel => exact ⟨by rw [c3], rfl⟩
            · have c1z : ¬ (a : Int) < (i : Int) := by omega
              have c3 : decide (a < i ∧ i < mid) = false := decide_eq_false (fun h => c1 h.1)
              go_wp2_with fail
              go_meet
              case rel => exact ⟨by rw [c3], rfl⟩
          case rest =>
          obtain ⟨rfl, rfl⟩ := hcut
          clear hw4
          go_upto_if 199 with fail
          go_cut [] from 192 to 205 (fun wx => SWK enc k w0 blk off (smD2 (ltOf cf) f a i mid (smD1 m i e d)) wx)
          case first =>
            by_cases c : a < i ∧ i < mid
            · have cbz : decide (a < i ∧ i < mid) = true := decide_eq_true c
              have hcall := IH.out a i mid _ _ (by omega) hd1 S3.out c.1 c.2 (by omega)
              rw [show symMerge (ltOf cf) f a i mid (smD1 m i e d) = smD2 (ltOf cf) f a i mid (smD1 m i e d) from (if_pos c).symm] at hcall
              go_wp2_with (go_at_fn 208; refine hcall.mono ?_; rintro e w1 ⟨rfl, S2⟩)
              go_meet
              case rel => exact S2
            · have cbz : decide (a < i ∧ i < mid) = false := decide_eq_false c
              have e1 : smD2 (ltOf cf) f a i mid (smD1 m i e d) = smD1 m i e d := if_neg c
              go_wp2_with fail
              go_meet
              case rel => rw [e1]; exact S3.out
          case rest =>
            have S4 : Aside (SWK enc k w0 blk off (smD2 (ltOf cf) f a i mid (smD1 m i e d)) wc) := hcut
            clear S3 hcut
            by_cases c : mid < e ∧ e < b
            · have c1 : (mid : Int) < (e : Int) := by omega
              have c2 : (e : Int) < (b : Int) := by omega
              have hcall := IH.out mid e b _ _ (by omega) hd2 S4.out c.1 c.2 hb
              rw [show symMerge (ltOf cf) f mid e b (smD2 (ltOf cf) f a i mid (smD1 m i e d)) = symMerge (ltOf cf) (f + 1) a m b d from by rw [HT.out]; exact (if_pos c).symm] at hcall
              go_wp2_with (go_at_fn 208; refine hcall.mono ?_; rintro e w1 ⟨rfl, S2⟩)
              go_end0
              exact ⟨rfl, S2⟩
            · have E1 : Hid (symMerge (ltOf cf) (f + 1) a m b d = smD2 (ltOf cf) f a i mid (smD1 m i e d)) := by show _ = _; rw [HT.out]; exact if_neg c
              by_cases c1 : mid < e
              · have c1z : (mid : Int) < (e : Int) := by omega
                have c2z : ¬ (e : Int) < (b : Int) := by omega
                go_wp2
                go_end0
                exact ⟨rfl, by rw [E1.out]; exact S4.out⟩
              · have c1z : ¬ (mid : Int) < (e : Int) := by omega
                go_wp2
                go_end0
                exact ⟨rfl, by rw [E1.out]; exact S4.out⟩
theorem symMerge_w (L : Lays P) (k : Nat) (aE : ∀ w, (isAgg 54).run P w = .ok true w) (zE : ∀ w, (Go.sizeOf 54).run P w = .ok k w) (enc : α → List Value) (cf : α → α → Int) (g : Nat) (cb : Array Value) (blk off cap : Nat) (d0 : Array α) (w0 : World)
    (eg : ∀ args w, (callFunc g args).run P w = .ok (.enter g args) w) (hcmp : CmpLays P g cb enc k cf blk off d0.size w0) (R : RowK enc k w0 blk off d0) (hsz : d0.size < 4611686018427387904) : ∀ (f a m b : Nat) (d : Array α) (w : World), b - a ≤ f → d.size = d0.size → SWK enc k w0 blk off d w → a < m → m < b → b ≤ d0.size →
    Calls P 208 #[.slice (some ⟨blk, off, none⟩) d0.size cap, .int .i64 a, .int .i64 m, .int .i64 b, .func (.func g) #[] cb] w fun e w' => e = .returned (.tuple #[]) ∧ SWK enc k w0 blk off (symMerge (ltOf cf) f a m b d) w' := by
  intro f
  induction f with
  | zero => intro a m b d w h0 _ _ h1 h2 _; omega
  | succ f ih =>
    intro a m b d w hf hds S ham hmb hb
    by_cases hA : m - a = 1
    · exact symMerge_one L k aE zE enc cf g cb blk off cap d0 w0 eg hcmp R hsz f a m b d w hf hds S ham hmb hb hA
    · by_cases hB : b - m = 1
      · exact symMerge_last L k aE zE enc cf g cb blk off cap d0 w0 eg hcmp R hsz f a m b d w hf hds S ham hmb hb hA hB
      · exact symMerge_two L k aE zE enc cf g cb blk off cap d0 w0 eg hcmp R hsz f a m b d w ih hf hds S ham hmb hb hA hB
theorem bl_go (lt : α → α → Bool) {n k a : Nat} {d : Array α} (h : a + 20 ≤ n) : blocks lt n (k + 1) a d = blocks lt n k (a + 20) (Sort.insertionSort lt d a (a + 20)) := by rw [blocks, if_pos h]
theorem bl_stop (lt : α → α → Bool) {n k a : Nat} {d : Array α} (h : ¬ a + 20 ≤ n) : blocks lt n k a d = Sort.insertionSort lt d a n := by
  cases k with
  | zero => rfl
  | succ k => rw [blocks, if_neg h]
theorem pa_go (lt : α → α → Bool) {n bs k a : Nat} {d : Array α} (h : a + 2 * bs ≤ n) : pass lt n bs (k + 1) a d = pass lt n bs k (a + 2 * bs) (symMerge lt n a (a + bs) (a + 2 * bs) d) := by rw [pass, if_pos h]
theorem pa_last (lt : α → α → Bool) {n bs k a : Nat} {d : Array α} (h : ¬ a + 2 * bs ≤ n) (h2 : a + bs < n) : pass lt n bs (k + 1) a d = symMerge lt n a (a + bs) n d := by rw [pass, if_neg h, if_pos h2]
theorem pa_stop (lt : α → α → Bool) {n bs k a : Nat} {d : Array α} (h : ¬ a + 2 * bs ≤ n) (h2 : ¬ a + bs < n) : pass lt n bs (k + 1) a d = d := by rw [pass, if_neg h, if_neg h2]
theorem me_go (lt : α → α → Bool) {n k bs : Nat} {d : Array α} (h : bs < n) : merges lt n (k + 1) bs d = merges lt n k (bs * 2) (pass lt n bs (n + 1) 0 d) := by rw [merges, if_pos h]
theorem me_stop (lt : α → α → Bool) {n k bs : Nat} {d : Array α} (h : ¬ bs < n) : merges lt n k bs d = d := by
  cases k with
  | zero => rfl
  | succ k => rw [merges, if_neg h]
set_option maxHeartbeats 8000000 in
set_option maxRecDepth 1000000 in
theorem stable_w (L : Lays P) (k : Nat) (aE : ∀ w, (isAgg 54).run P w = .ok true w) (zE : ∀ w, (Go.sizeOf 54).run P w = .ok k w) (enc : α → List Value) (cf : α → α → Int) (g : Nat) (cb : Array Value) (blk off cap : Nat) (d0 : Array α) (w0 : World)
    (eg : ∀ args w, (callFunc g args).run P w = .ok (.enter g args) w) (hcmp : CmpLays P g cb enc k cf blk off d0.size w0) (R : RowK enc k w0 blk off d0) (hsz : d0.size < 4611686018427387904) (hsm : d0.size ≤ 140737488355328) (hO : SWO (ltOf cf)) (hins : ∀ (a b : Nat) (d : Array α) (w : World), d.size = d0.size → SWK enc k w0 blk off d w → a ≤ b → b ≤ d0.size → Calls P 207 #[.slice (some ⟨blk, off, none⟩) d0.size cap, .int .i64 a, .int .i64 b, .func (.func g) #[] cb] w fun e w' => e = .returned (.tuple #[]) ∧ SWK enc k w0 blk off (Sort.insertionSort (ltOf cf) d a b) w') (d : Array α) (w : World) (hds : d.size = d0.size) (S : SWK enc k w0 blk off d w) :
    Calls P 184 #[.slice (some ⟨blk, off, none⟩) d0.size cap, .int .i64 d0.size, .func (.func g) #[] cb] w fun e w' => e = .returned (.tuple #[]) ∧ SWK enc k w0 blk off (stable (ltOf cf) d) w' := by
  have mixed := L.mixed; have t0 := L.t0; have a0 := L.a0; have z0 := L.z0; have v0 := L.v0; have t1 := L.t1; have a1 := L.a1; have z1 := L.z1; have v1 := L.v1; have t2 := L.t2; have a2 := L.a2; have z2 := L.z2; have v2 := L.v2; have t3 := L.t3; have a3 := L.a3; have z3 := L.z3; have v3 := L.v3; have t4 := L.t4; have a4 := L.a4; have z4 := L.z4; have v4 := L.v4; have t5 := L.t5; have a5 := L.a5; have z5 := L.z5; have v5 := L.v5
  have HC : Aside (CmpLays P g cb enc k cf blk off d0.size w0) := hcmp
  have HI : Aside (∀ (a b : Nat) (d : Array α) (w : World), d.size = d0.size → SWK enc k w0 blk off d w → a ≤ b → b ≤ d0.size → Calls P 207 #[.slice (some ⟨blk, off, none⟩) d0.size cap, .int .i64 a, .int .i64 b, .func (.func g) #[] cb] w fun e w' => e = .returned (.tuple #[]) ∧ SWK enc k w0 blk off (Sort.insertionSort (ltOf cf) d a b) w') := hins
  have HSZ : ∀ (d : Array α) (a b : Nat), a ≤ b → b ≤ d.size → (Sort.insertionSort (ltOf cf) d a b).size = d.size := fun d a b h1 h2 => (insertionSort_holds hO d a b h1 h2).1.1
  have HZ : Aside (∀ (d : Array α) (a b : Nat), a ≤ b → b ≤ d.size → (Sort.insertionSort (ltOf cf) d a b).size = d.size) := HSZ
  have eIN : ∀ args w, (callFunc 207 args).run P w = .ok (.enter 207 args) w := enters_of L.fIN (by kernel_rfl) rfl
  have eSY : ∀ args w, (callFunc 208 args).run P w = .ok (.enter 208 args) w := enters_of L.fSY (by kernel_rfl) rfl
  have S0 : Aside (SWK enc k w0 blk off d w) := S
  have HST : Hid (stable (ltOf cf) d = merges (ltOf cf) d0.size d0.size 20 (blocks (ltOf cf) d0.size d0.size 0 d)) := by show _ = _; rw [← hds]; rfl
  clear hcmp S hins HSZ
  obtain ⟨n, hn⟩ : ∃ n, n = d0.size := ⟨_, rfl⟩
  go_enter L.fST, Try.ntmps184
  go_wp2
  go_loopg [7, 8] d0.size (fun kx s7 s8 wr => ∃ (a K : Nat) (dk : Array α), s7 = .int .i64 a ∧ s8 = .int .i64 ((a : Int) + 20) ∧ a ≤ d0.size ∧ d0.size - a ≤ kx ∧ d0.size - a ≤ K ∧ dk.size = d0.size ∧ Aside (SWK enc k w0 blk off dk wr) ∧ Hid (blocks (ltOf cf) d0.size K a dk = blocks (ltOf cf) d0.size d0.size 0 d))
  case atStart => exact ⟨0, d0.size, d, rfl, rfl, Nat.zero_le _, Nat.le_refl _, Nat.le_refl _, hds, S0, rfl⟩
  case round =>
    obtain ⟨a, K, dk, rfl, rfl, ha, hkx, hK, hds, S1, HE⟩ := hrel
    clear S0
    by_cases hlt : a + 20 ≤ d0.size
    · have hltz : (a : Int) + 20 ≤ (d0.size : Int) := by omega
      obtain ⟨K, rfl⟩ : ∃ q, K = q + 1 := ⟨K - 1, by omega⟩
      have hcall := HI.out a (a + 20) dk wr hds S1.out (by omega) hlt
      rw [show ((a + 20 : Nat) : Int) = (a : Int) + 20 from by omega] at hcall
      have hd2 := HZ.out dk a (a + 20) (by omega) (by omega)
      clear S1
      go_wp2_with (go_at_fn 207; refine hcall.mono ?_; rintro e w1 ⟨rfl, S2⟩)
      have S3 : Aside (SWK enc k w0 blk off _ w1) := S2
      go_roundg (d0.size - (a + 20))
      case measure => omega
      case rel => exact ⟨a + 20, K, _, by go_num, by rw [show ((a + 20 : Nat) : Int) = (a : Int) + 20 from by omega], hlt, Nat.le_refl _, by omega, by omega, S3, (show Hid _ from by show _ = _; rw [← HE.out, bl_go _ hlt])⟩
    · have hltz : ¬ (a : Int) + 20 ≤ (d0.size : Int) := by omega
      have hcall := HI.out a d0.size dk wr hds S1.out ha (Nat.le_refl _)
      have hd2 := HZ.out dk a d0.size ha (by omega)
      have hbl : Sort.insertionSort (ltOf cf) dk a d0.size = blocks (ltOf cf) d0.size d0.size 0 d := by rw [← HE.out, bl_stop _ hlt]
      rw [hbl] at hcall hd2
      have hd3 : (blocks (ltOf cf) d0.size d0.size 0 d).size = d0.size := by omega
      obtain ⟨dB, hdB⟩ : ∃ x, x = blocks (ltOf cf) d0.size d0.size 0 d := ⟨_, rfl⟩
      rw [← hdB] at hcall hd3 HST
      clear S1 HE hbl hdB hd2
      go_wp2_with (go_at_fn 207; refine hcall.mono ?_; rintro e w1 ⟨rfl, S2⟩)
      have S2 : Aside (SWK enc k w0 blk off dB w1) := S2
      go_loopg [6] d0.size (fun kx s6 wr => ∃ (bs K : Nat) (dk : Array α), s6 = .int .i64 bs ∧ 1 ≤ bs ∧ (bs ≤ 20 ∨ bs < 2 * d0.size) ∧ d0.size - bs ≤ kx ∧ d0.size - bs ≤ K ∧ dk.size = d0.size ∧ Aside (SWK enc k w0 blk off dk wr) ∧ Hid (merges (ltOf cf) d0.size K bs dk = merges (ltOf cf) d0.size d0.size 20 dB))
      case atStart => exact ⟨20, d0.size, dB, rfl, by omega, .inl (Nat.le_refl _), by omega, by omega, hd3, S2, rfl⟩
      case round =>
        obtain ⟨bs, K, dk, rfl, hb1, hb2, hkx, hK, hds, S1, HE⟩ := hrel
        clear S2 hd3
        by_cases hlt2 : bs < d0.size
        · have hltz2 : (bs : Int) < (d0.size : Int) := by omega
          obtain ⟨K, rfl⟩ : ∃ q, K = q + 1 := ⟨K - 1, by omega⟩
          have HE2 : Hid (merges (ltOf cf) d0.size K (bs * 2) (pass (ltOf cf) d0.size bs (d0.size + 1) 0 dk) = merges (ltOf cf) d0.size d0.size 20 dB) := by show _ = _; rw [← HE.out, me_go _ hlt2]
          clear HE
          have r2 : IntKind.i64.wrap (2 * (bs : Int)) = 2 * (bs : Int) := by rw [IntKind.wrap_i64]; omega
          have r3 : IntKind.i64.wrap ((bs : Int) * 2) = (bs : Int) * 2 := by rw [IntKind.wrap_i64]; omega
          go_upto_block 4 with fail
          go_cut [7, 8] (fun s7 s8 wx => ∃ (a K2 : Nat) (dj : Array α), s7 = .int .i64 a ∧ s8 = .int .i64 ((a : Int) + 2 * (bs : Int)) ∧ a ≤ d0.size ∧ ¬ a + 2 * bs ≤ d0.size ∧ dj.size = d0.size ∧ Aside (SWK enc k w0 blk off dj wx) ∧ Hid (pass (ltOf cf) d0.size bs (K2 + 1) a dj = pass (ltOf cf) d0.size bs (d0.size + 1) 0 dk))
          case first =>
            go_wp2_with fail
            go_loopg [7, 8] d0.size (fun kx s7 s8 wr2 => ∃ (a K2 : Nat) (dj : Array α), s7 = .int .i64 a ∧ s8 = .int .i64 ((a : Int) + 2 * (bs : Int)) ∧ a ≤ d0.size ∧ d0.size - a ≤ kx ∧ d0.size - a ≤ K2 ∧ dj.size = d0.size ∧ Aside (SWK enc k w0 blk off dj wr2) ∧ Hid (pass (ltOf cf) d0.size bs (K2 + 1) a dj = pass (ltOf cf) d0.size bs (d0.size + 1) 0 dk))
            case atStart => exact ⟨0, d0.size, dk, rfl, by simp, Nat.zero_le _, Nat.le_refl _, Nat.le_refl _, hds, S1, rfl⟩
            case round =>
              obtain ⟨a, K2, dj, rfl, rfl, ha, hkx2, hK2, hdj, S3, HP⟩ := hrel
              clear S1
              have r4 : IntKind.i64.wrap ((a : Int) + 2 * (bs : Int)) = (a : Int) + 2 * (bs : Int) := by rw [IntKind.wrap_i64]; omega
              have r5 : IntKind.i64.wrap ((a : Int) + 2 * (bs : Int) + 2 * (bs : Int)) = (a : Int) + 2 * (bs : Int) + 2 * (bs : Int) := by rw [IntKind.wrap_i64]; omega
              by_cases hlt3 : a + 2 * bs ≤ d0.size
              · have hltz3 : (a : Int) + 2 * (bs : Int) ≤ (d0.size : Int) := by omega
                have r6 : IntKind.i64.wrap ((a : Int) + (bs : Int)) = (a : Int) + (bs : Int) := by rw [IntKind.wrap_i64]; omega
                have hcall := symMerge_w L k aE zE enc cf g cb blk off cap d0 w0 eg HC.out R hsz d0.size a (a + bs) (a + 2 * bs) dj wr (by omega) hdj S3.out (by omega) (by omega) hlt3
                rw [show ((a + bs : Nat) : Int) = (a : Int) + (bs : Int) from by omega, show ((a + 2 * bs : Nat) : Int) = (a : Int) + 2 * (bs : Int) from by omega] at hcall
                clear S3
                go_wp2_with (go_at_fn 208; refine hcall.mono ?_; rintro e w4 ⟨rfl, S4⟩)
                have S4 : Aside (SWK enc k w0 blk off _ w4) := S4
                obtain ⟨K2, rfl⟩ : ∃ q, K2 = q + 1 := ⟨K2 - 1, by omega⟩
                go_roundg (d0.size - (a + 2 * bs))
                case measure => omega
                case rel => exact ⟨a + 2 * bs, K2, _, by rw [show ((a + 2 * bs : Nat) : Int) = (a : Int) + 2 * (bs : Int) from by omega], by rw [show ((a + 2 * bs : Nat) : Int) = (a : Int) + 2 * (bs : Int) from by omega], hlt3, Nat.le_refl _, by omega, by rw [size_symMerge]; exact hdj, S4, (show Hid _ from by show _ = _; rw [← HP.out, pa_go _ hlt3])⟩
              · have hltz3 : ¬ (a : Int) + 2 * (bs : Int) ≤ (d0.size : Int) := by omega
                go_wp2_with fail
                go_meet
                case rel => exact ⟨a, K2, dj, rfl, rfl, ha, hlt3, hdj, S3, HP⟩
          case rest =>
            obtain ⟨a, K2, dj, rfl, rfl, ha, hlt3, hdj, S3, HP⟩ := hcut
            clear S1
            have r6 : IntKind.i64.wrap ((a : Int) + (bs : Int)) = (a : Int) + (bs : Int) := by rw [IntKind.wrap_i64]; omega
            by_cases hlt4 : a + bs < d0.size
            · have hltz4 : (a : Int) + (bs : Int) < (d0.size : Int) := by omega
              have hcall := symMerge_w L k aE zE enc cf g cb blk off cap d0 w0 eg HC.out R hsz d0.size a (a + bs) d0.size dj wc (by omega) hdj S3.out (by omega) hlt4 (Nat.le_refl _)
              rw [show ((a + bs : Nat) : Int) = (a : Int) + (bs : Int) from by omega] at hcall
              clear S3
              go_wp2_with (go_at_fn 208; refine hcall.mono ?_; rintro e w4 ⟨rfl, S4⟩)
              have S4 : Aside (SWK enc k w0 blk off _ w4) := S4
              go_roundg (d0.size - bs * 2)
              case measure => omega
              case rel => exact ⟨bs * 2, K, _, by rw [show ((bs * 2 : Nat) : Int) = (bs : Int) * 2 from by omega], by omega, by omega, Nat.le_refl _, by omega, by rw [size_symMerge]; exact hdj, S4, (show Hid _ from by show _ = _; rw [← HE2.out, ← HP.out, pa_last _ hlt3 hlt4])⟩
            · have hltz4 : ¬ (a : Int) + (bs : Int) < (d0.size : Int) := by omega
              go_wp2_with fail
              go_roundg (d0.size - bs * 2)
              case measure => omega
              case rel => exact ⟨bs * 2, K, dj, by rw [show ((bs * 2 : Nat) : Int) = (bs : Int) * 2 from by omega], by omega, by omega, Nat.le_refl _, by omega, hdj, S3, (show Hid _ from by show _ = _; rw [← HE2.out, ← HP.out, pa_stop _ hlt3 hlt4])⟩
        · have hltz2 : ¬ (bs : Int) < (d0.size : Int) := by omega
          go_wp2
          go_end0
          refine ⟨rfl, ?_⟩
          have e : dk = stable (ltOf cf) d := by rw [HST.out, ← HE.out, me_stop _ hlt2]
          rw [← e]
          exact S1.out
set_option maxHeartbeats 8000000 in
set_option maxRecDepth 1000000 in
theorem sortStable_w (L : Lays P) (k : Nat) (aE : ∀ w, (isAgg 54).run P w = .ok true w) (zE : ∀ w, (Go.sizeOf 54).run P w = .ok k w) (enc : α → List Value) (cf : α → α → Int) (g : Nat) (cb : Array Value) (blk off cap : Nat) (d0 : Array α) (w0 : World)
    (eg : ∀ args w, (callFunc g args).run P w = .ok (.enter g args) w) (hcmp : CmpLays P g cb enc k cf blk off d0.size w0) (R : RowK enc k w0 blk off d0) (hsz : d0.size < 4611686018427387904) (hsm : d0.size ≤ 140737488355328) (hO : SWO (ltOf cf)) (hins : ∀ (a b : Nat) (d : Array α) (w : World), d.size = d0.size → SWK enc k w0 blk off d w → a ≤ b → b ≤ d0.size → Calls P 207 #[.slice (some ⟨blk, off, none⟩) d0.size cap, .int .i64 a, .int .i64 b, .func (.func g) #[] cb] w fun e w' => e = .returned (.tuple #[]) ∧ SWK enc k w0 blk off (Sort.insertionSort (ltOf cf) d a b) w') (d : Array α) (w : World) (hds : d.size = d0.size) (S : SWK enc k w0 blk off d w) :
    Calls P 151 #[.slice (some ⟨blk, off, none⟩) d0.size cap, .func (.func g) #[] cb] w fun e w' => e = .returned (.tuple #[]) ∧ SWK enc k w0 blk off (stable (ltOf cf) d) w' := by
  have mixed := L.mixed; have t0 := L.t0; have a0 := L.a0; have z0 := L.z0; have v0 := L.v0; have t1 := L.t1; have a1 := L.a1; have z1 := L.z1; have v1 := L.v1; have t2 := L.t2; have a2 := L.a2; have z2 := L.z2; have v2 := L.v2; have t3 := L.t3; have a3 := L.a3; have z3 := L.z3; have v3 := L.v3; have t4 := L.t4; have a4 := L.a4; have z4 := L.z4; have v4 := L.v4; have t5 := L.t5; have a5 := L.a5; have z5 := L.z5; have v5 := L.v5
  have eST : ∀ args w, (callFunc 184 args).run P w = .ok (.enter 184 args) w := enters_of L.fST (by kernel_rfl) rfl
  have hcall := stable_w L k aE zE enc cf g cb blk off cap d0 w0 eg hcmp R hsz hsm hO hins d w hds S
  clear hcmp S hins
  go_enter L.fSS, Try.ntmps151
  go_wp2_with (go_at_fn 184; refine hcall.mono ?_; rintro e w1 ⟨rfl, S2⟩)
  go_end0
  exact ⟨rfl, S2⟩
end Go.Proofs.Ytjilnpbgclnecac.XSw
