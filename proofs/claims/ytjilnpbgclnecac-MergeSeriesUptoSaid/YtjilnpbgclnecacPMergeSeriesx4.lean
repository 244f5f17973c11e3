/- Written by a program of this session out of the translation: for Go functions Lean functions of the same answers, and the proof that the calls come to these answers. -/
import Derived.Shelf.SlSortCmp.NoneTotal
import Derived.Test.YtjilnpbgclnecacXHand
import Derived.Test.YtjilnpbgclnecacXLay
import Derived.Test.YtjilnpbgclnecacXSortRow
import Derived.Test.YtjilnpbgclnecacXMerge
import Derived.Test.YtjilnpbgclnecacXStableW
import Derived.Test.YtjilnpbgclnecacPMergeSeriesx0
import Derived.Test.YtjilnpbgclnecacPMergeSeriesx3
namespace Go.Proofs.Ytjilnpbgclnecac.PMergeSeries
open Go.RowKit Go.Proofs.YtjilnpbgclnecacW.PrintWords Go.Proofs.YtjilnpbgclnecacW.PrintLast Go.Proofs.YtjilnpbgclnecacW.PrintMore Go.Proofs.Ytjilnpbgclnecac.XB
attribute [local go_sem] sg_u8 sg_u16 sg_u32 sg_u64 mx_u8 mx_u16 mx_u32 mx_u64
attribute [local go_sem] max2_int min2_int max_two min_two max_three min_three max_four min_four   -- for this text's walks alone
set_option linter.unusedVariables false
set_option linter.unusedSimpArgs false

/-! ### merge_Samples: function 38 -/
def merge_Samples.key (x : S54) : Int := x.f0
def merge_Samples.f (l0 : List (List S54)) : Option (List S54) := if l0.length < 1099511627776 ∧ l0.flatten.length < 1099511627776 then some (Go.Proofs.Ytjilnpbgclnecac.XMg.mrg merge_Samples.key l0.flatten) else none
-- WALK
section
open Go.Sort Go.Shelf Go.Lib Go.Proofs.Ytjilnpbgclnecac.XSr Go.Proofs.Ytjilnpbgclnecac.XSt Go.Proofs.Ytjilnpbgclnecac.XSw Go.Proofs.Ytjilnpbgclnecac.XMg Go.Proofs.Ytjilnpbgclnecac.XH
/-- A head: where its row lies, its samples, its list. -/
structure merge_Samples.H where
  g : Nat
  o : Nat
  c : Nat
  xs : List S54
  fr : Int
instance : Inhabited merge_Samples.H := ⟨⟨0, 0, 0, [], 0⟩⟩
def merge_Samples.enc (h : merge_Samples.H) : List Value := [.slice (some ⟨h.g, h.o, none⟩) h.xs.length h.c, .int .i64 h.fr]
/-- A head's row lies there, and is none that is empty. -/
def merge_Samples.HV (W : World) (h : merge_Samples.H) : Prop :=
  h.xs ≠ [] ∧ h.xs.length ≤ h.c ∧ ∃ cs, W.heap[h.g]? = some (.cells cs 54 (0, 0)) ∧ ∀ j x, h.xs[j]? = some x → cs[h.o + 2 * j]? = some (.int .i64 x.f0) ∧ cs[h.o + 2 * j + 1]? = some (.int .i64 x.f1)
theorem merge_Samples.HV.keep {W W' : World} {h : merge_Samples.H} (hv : merge_Samples.HV W h) (hk : W'.heap[h.g]? = W.heap[h.g]?) : merge_Samples.HV W' h := by
  obtain ⟨h1, h2, cs, h3, h4⟩ := hv
  exact ⟨h1, h2, cs, hk.trans h3, h4⟩
theorem merge_Samples.HV.lt {W : World} {h : merge_Samples.H} (hv : merge_Samples.HV W h) : h.g < W.heap.size := by
  obtain ⟨_, _, cs, h3, _⟩ := hv
  exact blk_lt h3
def merge_Samples.hdT (h : merge_Samples.H) : Int := (rd_T54 h.xs 0).f0
def merge_Samples.bef (h k : merge_Samples.H) : Bool := decide (merge_Samples.hdT h < merge_Samples.hdT k) || (decide (merge_Samples.hdT h = merge_Samples.hdT k) && decide (h.fr < k.fr))
theorem merge_Samples.HV.first {W : World} {h : merge_Samples.H} (hv : merge_Samples.HV W h) : W.cell? ⟨h.g, h.o, none⟩ = some (.int .i64 (merge_Samples.hdT h)) ∧ 0 < h.xs.length := by
  obtain ⟨h1, _, cs, h3, h4⟩ := hv
  have hpos : 0 < h.xs.length := List.length_pos_iff.mpr h1
  refine ⟨?_, hpos⟩
  rw [blk_cell h3 h.o]
  have := (h4 0 h.xs[0] (List.getElem?_eq_getElem hpos)).1
  rw [Nat.mul_zero, Nat.add_zero] at this
  rw [this]
  unfold merge_Samples.hdT rd_T54
  simp [hpos]
set_option maxHeartbeats 4000000 in
set_option maxRecDepth 100000 in
theorem merge_Samples.before (h k : merge_Samples.H) (W : World) (hh : merge_Samples.HV W h) (hk : merge_Samples.HV W k) :
    Calls Try.prog 101 #[.agg (merge_Samples.enc h).toArray, .agg (merge_Samples.enc k).toArray] W fun e w' => e = .returned (.bool (merge_Samples.bef h k)) ∧ ∃ q os', w' = grow (W.drewN q) os' := by
  obtain ⟨ch, ph⟩ := hh.first
  obtain ⟨ck, pk⟩ := hk.first
  have lh := hh.lt
  have lk := hk.lt
  clear hh hk
  unfold merge_Samples.bef
  obtain ⟨x, hx⟩ : ∃ x, x = merge_Samples.hdT h := ⟨_, rfl⟩
  obtain ⟨y, hy⟩ : ∃ y, y = merge_Samples.hdT k := ⟨_, rfl⟩
  rw [← hx] at ch ⊢
  rw [← hy] at ck ⊢
  clear hx hy
  obtain ⟨hg, ho, hc, hxs, hfr⟩ := h
  obtain ⟨kg, ko, kc, kxs, kfr⟩ := k
  show Calls Try.prog 101 #[.agg #[.slice (some ⟨hg, ho, none⟩) hxs.length hc, .int .i64 hfr], .agg #[.slice (some ⟨kg, ko, none⟩) kxs.length kc, .int .i64 kfr]] W _
  dsimp only at ch ck ph pk lh lk ⊢
  have phz : (0 : Int) < (hxs.length : Int) := by omega
  have pkz : (0 : Int) < (kxs.length : Int) := by omega
  generalize hxs.length = n at *
  generalize kxs.length = m at *
  go_enter Try.func101, Try.ntmps101
  go_upto_region 1 with fail
  refine cwp_world ?_
  intro W2 hW
  have ha : (⟨W.heap.size, 0, none⟩ : Addr).block < W.heap.size + 1 := by simp
  have b0 : W2.cell? ⟨W.heap.size, 0, none⟩ = some (.slice (some ⟨hg, ho, none⟩) n hc) := by rw [hW]; simp
  have b1 : W2.cell? ⟨W.heap.size, 1, none⟩ = some (.int .i64 hfr) := by rw [hW]; simp
  have b2 : W2.cell? ⟨W.heap.size + 1, 0, none⟩ = some (.slice (some ⟨kg, ko, none⟩) m kc) := by rw [hW]; simp
  have b3 : W2.cell? ⟨W.heap.size + 1, 1, none⟩ = some (.int .i64 kfr) := by rw [hW]; simp
  have hbl : Below W.heap.size W W2 := by rw [hW]; exact below_alloc (below_alloc (Below.refl _ _) _) _
  have c1 := pw_cell_below hbl ch
  have c2 := pw_cell_below hbl ck
  have HG := Aside0.mk (show ∀ q, ∃ q2 os', W2.drewN q = grow (W.drewN q2) os' from fun q => ⟨q, _, by rw [hW, alloc_eq_grow, alloc_eq_grow, grow_grow]; rfl⟩)
  clear hW ha hbl ch ck lh lk
  by_cases h1 : x < y
  · have h1b : decide (x < y) = true := decide_eq_true h1
    go_quiet (fail)
    go_wp2
    go_ret
    exact ⟨by simp [h1], HG.out nq⟩
  · have h1b : decide (x < y) = false := decide_eq_false h1
    by_cases h2 : x = y
    · subst h2
      have h2b : (x == x) = true := beq_self_eq_true x
      by_cases h3 : hfr < kfr
      · have h3b : decide (hfr < kfr) = true := decide_eq_true h3
        go_quiet (fail)
        go_wp2
        go_ret
        exact ⟨by simp [h3], HG.out nq⟩
      · have h3b : decide (hfr < kfr) = false := decide_eq_false h3
        go_quiet (fail)
        go_wp2
        go_ret
        exact ⟨by simp [h3], HG.out nq⟩
    · have h2b : (x == y) = false := beq_eq_false_iff_ne.mpr h2
      go_quiet (fail)
      go_wp2
      go_ret
      exact ⟨by simp [h1, h2], HG.out nq⟩
def merge_Samples.cf (h k : merge_Samples.H) : Int := if merge_Samples.bef h k = true then -1 else 1
theorem merge_Samples.lt_cf (h k : merge_Samples.H) : decide (merge_Samples.cf h k < 0) = merge_Samples.bef h k := by
  unfold merge_Samples.cf
  cases merge_Samples.bef h k <;> simp
theorem merge_Samples.swo : SWO merge_Samples.bef where
  irrefl := fun x => by unfold merge_Samples.bef; simp
  trans := fun x y z h1 h2 => by
    unfold merge_Samples.bef at *
    simp only [Bool.or_eq_true, Bool.and_eq_true, decide_eq_true_eq] at *
    omega
  ntrans := fun x y z h1 h2 => by
    unfold merge_Samples.bef at *
    simp only [Bool.or_eq_false_iff, Bool.and_eq_false_iff, decide_eq_false_iff_not] at *
    omega
theorem merge_Samples.swoR : SWO (fun x y => merge_Samples.bef y x) where
  irrefl := fun x => merge_Samples.swo.irrefl x
  trans := fun x y z h1 h2 => merge_Samples.swo.trans z y x h2 h1
  ntrans := fun x y z h1 h2 => merge_Samples.swo.ntrans z y x h2 h1
set_option maxHeartbeats 4000000 in
set_option maxRecDepth 100000 in
theorem merge_Samples.clos (h k : merge_Samples.H) (W : World) (hh : merge_Samples.HV W h) (hk : merge_Samples.HV W k) :
    Calls Try.prog 100 #[.agg (merge_Samples.enc h).toArray, .agg (merge_Samples.enc k).toArray] W fun e w' => e = .returned (.int .i64 (merge_Samples.cf h k)) ∧ ∃ q os', w' = grow (W.drewN q) os' := by
  have HBF := fun (b1 b2 : Obj) => Aside0.mk (merge_Samples.before h k ((W.alloc b1).alloc b2) (hh.keep ((below_alloc (below_alloc (Below.refl W.heap.size W) b1) b2).block _ hh.lt)) (hk.keep ((below_alloc (below_alloc (Below.refl W.heap.size W) b1) b2).block _ hk.lt)))
  unfold merge_Samples.cf
  clear hh hk
  obtain ⟨hg, ho, hc, hxs, hfr⟩ := h
  obtain ⟨kg, ko, kc, kxs, kfr⟩ := k
  show Calls Try.prog 100 #[.agg #[.slice (some ⟨hg, ho, none⟩) hxs.length hc, .int .i64 hfr], .agg #[.slice (some ⟨kg, ko, none⟩) kxs.length kc, .int .i64 kfr]] W _
  replace HBF := fun (b1 b2 : Obj) => Aside0.mk (show Calls Try.prog 101 #[.agg #[.slice (some ⟨hg, ho, none⟩) hxs.length hc, .int .i64 hfr], .agg #[.slice (some ⟨kg, ko, none⟩) kxs.length kc, .int .i64 kfr]] ((W.alloc b1).alloc b2) _ from (HBF b1 b2).out)
  cases hb : merge_Samples.bef ⟨hg, ho, hc, hxs, hfr⟩ ⟨kg, ko, kc, kxs, kfr⟩ with
  | true =>
    rw [hb] at HBF
    clear hb
    go_enter Try.func100, Try.ntmps100
    go_wp2_with (go_at_call 101; refine (HBF _ _).out.mono ?_; rintro e w' ⟨rfl, q, os, rfl⟩)
    go_ret
    exact ⟨rfl, q, _, by rw [alloc_eq_grow, alloc_eq_grow, grow_grow]; show grow (grow (W.drewN q) _) os = _; exact grow_grow _ _ _⟩
  | false =>
    rw [hb] at HBF
    clear hb
    go_enter Try.func100, Try.ntmps100
    go_wp2_with (go_at_call 101; refine (HBF _ _).out.mono ?_; rintro e w' ⟨rfl, q, os, rfl⟩)
    go_ret
    exact ⟨rfl, q, _, by rw [alloc_eq_grow, alloc_eq_grow, grow_grow]; show grow (grow (W.drewN q) _) os = _; exact grow_grow _ _ _⟩
/-- A head that lies in w elsewhere than in block blk. -/
def merge_Samples.Ok (w : World) (blk : Nat) (h : merge_Samples.H) : Prop := merge_Samples.HV w h ∧ h.g ≠ blk
theorem merge_Samples.Ok.on {w : World} {blk m k : Nat} {h : merge_Samples.H} {β : Type} [Inhabited β] {enc : β → List Value} {d : Array β} {os : Array Obj} (ho : merge_Samples.Ok w blk h) : merge_Samples.HV (sortWorldK enc k w blk 0 m d os) h :=
  ho.1.keep ((grownBy_sortedK (enc := enc) (k := k) (w := w) (g := blk) (n := m) (os := os) d).block h.g ho.1.lt (fun e => ho.2 (by injection e)))
theorem merge_Samples.pdqs (blk cap : Nat) (l : List merge_Samples.H) (base : Nat) (w : World) (hl : l ≠ []) (hs : l.length ≤ 140737488355328) (hok : ∀ h ∈ l, merge_Samples.Ok w blk h)
    (ho : w.ownsRow base 155 2 (.slice (some ⟨blk, 0, none⟩) l.length cap) l.length (l.flatMap merge_Samples.enc)) :
    Calls Try.prog 153 #[.slice (some ⟨blk, 0, none⟩) l.length cap, .int .i64 0, .int .i64 l.length, .int .i64 (Lib.bitLen l.length : Nat), .func (.func 100) #[] #[]] w fun e w' => e = .returned (.tuple #[]) ∧ ∃ l' : List merge_Samples.H, l'.Perm l ∧ Hp (fun x y => merge_Samples.bef y x) l' ∧
      w'.ownsRow base 155 2 (.slice (some ⟨blk, 0, none⟩) l.length cap) l.length (l'.flatMap merge_Samples.enc) ∧ w.grownBy w' (some blk) := by
  obtain ⟨x0, r0, hl0⟩ := List.exists_cons_of_ne_nil hl
  let α := { h : merge_Samples.H // merge_Samples.Ok w blk h }
  letI : Inhabited α := ⟨⟨x0, hok x0 (by rw [hl0]; exact List.mem_cons_self)⟩⟩
  let encA : α → List Value := fun x => merge_Samples.enc x.1
  let cfA : α → α → Int := fun x y => merge_Samples.cf x.1 y.1
  have hk : ∀ x : α, (encA x).length = 2 := fun _ => rfl
  have h1 : ∀ x : α, ∀ v ∈ encA x, v.oneCell' = true := fun x v hv => by
    have hv' : v ∈ merge_Samples.enc x.1 := hv
    simp only [merge_Samples.enc, List.mem_cons, List.not_mem_nil, or_false] at hv'
    rcases hv' with rfl | rfl <;> rfl
  have hO : SWO (ltOf cfA) := by
    have e : ltOf cfA = fun x y => merge_Samples.bef x.1 y.1 := by funext x y; exact merge_Samples.lt_cf x.1 y.1
    rw [e]
    exact ⟨fun x => merge_Samples.swo.irrefl x.1, fun x y z => merge_Samples.swo.trans x.1 y.1 z.1, fun x y z => merge_Samples.swo.ntrans x.1 y.1 z.1⟩
  have hC : CmpLays Try.prog 100 #[] encA 2 cfA blk 0 l.attach.length w := fun m os dk _ x y => merge_Samples.clos x.1 y.1 _ x.2.on y.2.on
  let lA : List α := l.attach.map fun x => ⟨x.1, hok x.1 x.2⟩
  have hval : lA.map (·.1) = l := by simp [lA, List.map_map, Function.comp_def]
  have hlA : lA.length = l.length := by simp [lA]
  have hflat : ∀ q : List α, q.flatMap encA = (q.map (·.1)).flatMap merge_Samples.enc := fun q => by
    induction q with
    | nil => rfl
    | cons x q ih => rw [List.flatMap_cons, List.map_cons, List.flatMap_cons, ih]
  have hoA : w.ownsRow base 155 2 (.slice (some ⟨blk, 0, none⟩) l.length cap) l.length (lA.flatMap encA) := by rw [hflat, hval]; exact ho
  have hH : HoldsK encA 2 w blk 0 lA.toArray := holdsK_of_own hk hoA hlA
  have hblk : blk < w.heap.size := own_lt ho blk rfl
  have R : RowK encA 2 w blk 0 lA.toArray := ⟨hk, h1, hH, hblk⟩
  have eg : ∀ args w, (callFunc 100 args).run Try.prog w = .ok (.enter 100 args) w := enters_of Try.func100 (by kernel_rfl) rfl
  have hsz : lA.toArray.size = l.length := by simpa using hlA
  have hbl : Lib.bitLen l.length < 4611686018427387904 := Nat.lt_of_le_of_lt (Lib.bitLen_le l.length 62 (by omega) (by omega)) (by omega)
  have hp := AnyQ.pdqsortCmpFunc_all (P := Try.prog) (ρ := Go.Proofs.Ytjilnpbgclnecac.pdqHead_ren) Go.Proofs.Ytjilnpbgclnecac.pdqHead 2 Try.isAgg155 Try.sizeOf155 encA cfA 100 #[] hO blk 0 cap lA.toArray w eg (by rw [hsz, ← List.length_attach (l := l)]; exact hC) R (lA.toArray.size + 1) 0 lA.toArray.size (Lib.bitLen l.length) lA.toArray w (by omega) rfl (SWK.start hH) (Nat.zero_le _) (Nat.le_refl _) (by omega) hbl (Or.inl rfl)
  rw [hsz] at hp
  have hps := pdq_sorts (ltOf cfA) hO lA.toArray 0 lA.toArray.size (Lib.bitLen l.length) true true (Nat.zero_le _) (Nat.le_refl _) (Or.inl rfl)
  rw [hsz] at hps
  obtain ⟨D, hD⟩ : ∃ D, D = pdq (ltOf cfA) lA.toArray 0 l.length (Lib.bitLen l.length) true true := ⟨_, rfl⟩
  rw [← hD] at hp hps
  refine hp.mono ?_
  rintro e w' ⟨rfl, hW⟩
  refine ⟨rfl, ?_⟩
  obtain ⟨⟨p1, p2, p3⟩, p4⟩ := hps
  have e1 : D.extract 0 l.length = D := by rw [← hsz, ← p1]; simp
  have e2 : lA.toArray.extract 0 l.length = lA.toArray := by rw [← hsz]; simp
  rw [e1, e2] at p3
  have hperm : D.toList.Perm lA := by simpa using p3
  obtain ⟨o1, o2⟩ := SWK.own (l' := D.toList) hk hoA (by rw [hperm.length_eq, hlA]) (by rw [Array.toArray_toList]; exact hW)
  rw [hflat] at o1
  refine ⟨D.toList.map (·.1), by rw [← hval]; exact hperm.map _, ?_, o1, o2⟩
  have hD' : SortedIn (ltOf cfA) 0 D.size D := by rw [p1, hsz]; exact p4
  intro i hi k hk hkh
  rw [List.length_map, Array.length_toList] at hi hkh
  have := hD' i k (Nat.zero_le _) (by omega) hkh
  rw [show ltOf cfA D[k]! D[i]! = merge_Samples.bef D[k]!.1 D[i]!.1 from merge_Samples.lt_cf _ _] at this
  simp only [Nat.zero_add]
  have g : ∀ j, j < D.size → (D.toList.map (·.1)).toArray[j]! = D[j]!.1 := fun j hj => by
    rw [getElem!_pos _ j (by simpa using hj), getElem!_pos D j hj]
    simp
  rw [g i hi, g k hkh]
  exact this

set_option maxHeartbeats 4000000 in
set_option maxRecDepth 100000 in
/-- slices.SortFunc of heads. -/
theorem merge_Samples.sortFunc (blk cap : Nat) (l : List merge_Samples.H) (base : Nat) (w : World) (hl : l ≠ []) (hs : l.length ≤ 140737488355328) (hok : ∀ h ∈ l, merge_Samples.Ok w blk h)
    (ho : w.ownsRow base 155 2 (.slice (some ⟨blk, 0, none⟩) l.length cap) l.length (l.flatMap merge_Samples.enc)) :
    Calls Try.prog 99 #[.slice (some ⟨blk, 0, none⟩) l.length cap, .func (.func 100) #[] #[]] w fun e w' => e = .returned (.tuple #[]) ∧ ∃ l' : List merge_Samples.H, l'.Perm l ∧ Hp (fun x y => merge_Samples.bef y x) l' ∧
      w'.ownsRow base 155 2 (.slice (some ⟨blk, 0, none⟩) l.length cap) l.length (l'.flatMap merge_Samples.enc) ∧ w.grownBy w' (some blk) := by
  have HP := Aside0.mk (merge_Samples.pdqs blk cap l base w hl hs hok ho)
  have hlen : Calls Try.prog 154 #[.int .u64 (l.length : Int)] w fun e w' => e = .returned (.int .i64 (Lib.bitLen l.length : Nat)) ∧ w' = w := by
    have h := Any.bits_Len (SlLaysF0.n15.bits (P := Try.prog) (ρ := Go.Proofs.Ytjilnpbgclnecac.bitsLen_ren) Go.Proofs.Ytjilnpbgclnecac.bitsLen) (l.length : Int) w (by omega) (by omega)
    rwa [Int.toNat_natCast] at h
  have HLEN := Aside0.mk hlen
  have wr : IntKind.u64.wrap (l.length : Int) = l.length := by simp [IntKind.wrap, IntKind.bits, IntKind.signed]; omega
  clear hlen ho hok
  go_enter Try.func99, Try.ntmps99
  go_wp2_with (first
    | (go_at_call 154; (with_reducible refine HLEN.out.mono ?_); rintro e w1 ⟨rfl, rfl⟩)
    | (go_at_call 153; (with_reducible refine HP.out.mono ?_); rintro e w2 ⟨rfl, hW⟩))
  go_end0
  exact ⟨rfl, hW⟩
/-- The program bears sink's body and its types. -/
structure merge_Samples.Lays (P : Program) : Prop where
  mixed : P.follows .mixedOrders = true
  f102 : P.funcs[102]? = some Try.f102
  t0 : P.underlying 0 = some (TypeDesc.tuple #[])
  a0 : ∀ w, (isAgg 0).run P w = .ok false w
  z0 : ∀ w, (Go.sizeOf 0).run P w = .ok 1 w
  v0 : ∀ w, (zeroValue 0).run P w = .ok (Value.tuple #[]) w
  t1 : P.underlying 3 = some (TypeDesc.int IntKind.i64)
  a1 : ∀ w, (isAgg 3).run P w = .ok false w
  z1 : ∀ w, (Go.sizeOf 3).run P w = .ok 1 w
  v1 : ∀ w, (zeroValue 3).run P w = .ok (Value.int IntKind.i64 0) w
  t2 : P.underlying 4 = some (TypeDesc.bool)
  a2 : ∀ w, (isAgg 4).run P w = .ok false w
  z2 : ∀ w, (Go.sizeOf 4).run P w = .ok 1 w
  v2 : ∀ w, (zeroValue 4).run P w = .ok (Value.bool false) w
  t3 : P.underlying 153 = some (TypeDesc.slice 155)
  a3 : ∀ w, (isAgg 153).run P w = .ok false w
  z3 : ∀ w, (Go.sizeOf 153).run P w = .ok 1 w
  v3 : ∀ w, (zeroValue 153).run P w = .ok (Value.slice none 0 0) w
theorem merge_Samples.lays : merge_Samples.Lays Try.prog := {
  mixed := by kernel_rfl
  f102 := Try.func102
  t0 := Try.underlying0
  a0 := Try.isAgg0
  z0 := Try.sizeOf0
  v0 := Try.zeroValue0
  t1 := Try.underlying3
  a1 := Try.isAgg3
  z1 := Try.sizeOf3
  v1 := Try.zeroValue3
  t2 := Try.underlying4
  a2 := Try.isAgg4
  z2 := Try.sizeOf4
  v2 := Try.zeroValue4
  t3 := Try.underlying153
  a3 := Try.isAgg153
  z3 := Try.sizeOf153
  v3 := Try.zeroValue153 }
theorem merge_Samples.good_swp {α : Type} [Inhabited α] {good : α → Prop} {d : Array α} (i j : Nat) (hi : i < d.size) (hj : j < d.size) (h : ∀ x, x < d.size → good d[x]!) : ∀ x, x < (swp d i j).size → good (swp d i j)[x]! := by
  intro x hx
  rw [size_swp] at hx
  by_cases h1 : x = i
  · subst h1
    by_cases h2 : j = x
    · subst h2; rw [swp_right d _ _ hj]; exact h _ hx
    · rw [swp_left d _ _ hx (fun e => h2 e.symm)]; exact h _ hj
  · by_cases h2 : x = j
    · subst h2; rw [swp_right d _ _ hj]; exact h _ hi
    · rw [swp_other d _ _ _ h1 h2]; exact h _ hx
set_option maxHeartbeats 8000000 in
set_option maxRecDepth 1000000 in
theorem merge_Samples.sink_w {P : Program} (L : merge_Samples.Lays P) {α : Type} [Inhabited α] (k : Nat) (aE : ∀ w, (isAgg 155).run P w = .ok true w) (zE : ∀ w, (Go.sizeOf 155).run P w = .ok k w) (enc : α → List Value) (lt : α → α → Bool) (good : α → Prop) (blk cap : Nat) (d0 : Array α) (w0 : World)
    (R : RowK enc k w0 blk 0 d0) (hsz : d0.size ≤ 140737488355328) (e101 : ∀ args w, (callFunc 101 args).run P w = .ok (.enter 101 args) w)
    (hbef0 : ∀ (x y : α) (W : World), good x → good y → (∃ dk : Array α, dk.size = d0.size ∧ SWK enc k w0 blk 0 dk W) → Calls P 101 #[.agg (enc x).toArray, .agg (enc y).toArray] W fun e w' => e = .returned (.bool (lt x y)) ∧ ∃ q os', w' = grow (W.drewN q) os')
    (hgood : ∀ i, i < d0.size → good d0[i]!) :
    Calls P 102 #[.slice (some ⟨blk, 0, none⟩) d0.size cap] w0 fun e w' => e = .returned (.tuple #[]) ∧ SWK enc k w0 blk 0 (siftDown (fun x y => lt y x) d0.size 0 0 d0) w' := by
  have mixed := L.mixed; have t0 := L.t0; have a0 := L.a0; have z0 := L.z0; have v0 := L.v0; have t1 := L.t1; have a1 := L.a1; have z1 := L.z1; have v1 := L.v1; have t2 := L.t2; have a2 := L.a2; have z2 := L.z2; have v2 := L.v2; have t3 := L.t3; have a3 := L.a3; have z3 := L.z3; have v3 := L.v3
  have hbef : Aside (∀ (x y : α) (W : World), good x → good y → (∃ dk : Array α, dk.size = d0.size ∧ SWK enc k w0 blk 0 dk W) → Calls P 101 #[.agg (enc x).toArray, .agg (enc y).toArray] W fun e w' => e = .returned (.bool (lt x y)) ∧ ∃ q os', w' = grow (W.drewN q) os') := hbef0
  have HG : Aside (∀ i, i < d0.size → good d0[i]!) := hgood
  have S0 : Aside (SWK enc k w0 blk 0 d0 w0) := SWK.start R.hH
  clear hbef0 hgood
  go_enter L.f102, Try.ntmps102
  go_wp2
  go_step3
  go_wp2
  go_step3
  go_wp2
  go_loopg [2] d0.size (fun kx s2 wr => ∃ (root : Nat) (dk : Array α), s2 = .int .i64 root ∧ root ≤ d0.size ∧ d0.size - root ≤ kx ∧ dk.size = d0.size ∧ Aside (∀ i, i < dk.size → good dk[i]!) ∧ Aside (SWK enc k w0 blk 0 dk wr) ∧ Hid (siftDown (fun x y => lt y x) d0.size 0 root dk = siftDown (fun x y => lt y x) d0.size 0 0 d0))
  case atStart => exact ⟨0, d0, rfl, Nat.zero_le _, Nat.le_refl _, rfl, HG, S0, rfl⟩
  case round =>
    obtain ⟨root, dk, rfl, hr, hkx, hds, HGD, S1, HE⟩ := hrel
    clear S0 HG
    have hgd : ∀ i, i < d0.size → good dk[i]! := fun i hi => HGD.out i (by omega)
    have rc : IntKind.i64.wrap (2 * (root : Int)) = 2 * (root : Int) := by rw [IntKind.wrap_i64]; omega
    have rc1 : IntKind.i64.wrap (2 * (root : Int) + 1) = 2 * (root : Int) + 1 := by rw [IntKind.wrap_i64]; omega
    have rc2 : IntKind.i64.wrap (2 * (root : Int) + 1 + 1) = 2 * (root : Int) + 1 + 1 := by rw [IntKind.wrap_i64]; omega
    by_cases h0 : d0.size ≤ 2 * root + 1
    · have h0z : (d0.size : Int) ≤ 2 * (root : Int) + 1 := by omega
      go_wp2
      simp only [Exit.noGoto]
      go_end0
      refine ⟨rfl, ?_⟩
      rw [← HE.out, sd_end _ dk h0]
      exact S1.out
    · have h0z : ¬ ((d0.size : Int) ≤ 2 * (root : Int) + 1) := by omega
      by_cases h1 : 2 * root + 2 < d0.size
      · have h1z : 2 * (root : Int) + 1 + 1 < (d0.size : Int) := by omega
        have h1d : decide (2 * (root : Int) + 1 + 1 < (d0.size : Int)) = true := decide_eq_true h1z
        cases hL : lt dk[2 * root + 2]! dk[2 * root + 1]! with
        | true =>
          have e3a : (2 * (root : Int) + 1 + 1).toNat = 2 * root + 2 := by omega
          have p3a : (0 : Int) ≤ 2 * (root : Int) + 1 + 1 := by omega
          have b3a : 2 * (root : Int) + 1 + 1 < (d0.size : Int) := by omega
          have r3a : IntKind.i64.wrap (2 * (root : Int) + 1 + 1) = 2 * (root : Int) + 1 + 1 := by rw [IntKind.wrap_i64]; omega
          have e3c : (2 * (root : Int) + 1).toNat = 2 * root + 1 := by omega
          have p3c : (0 : Int) ≤ 2 * (root : Int) + 1 := by omega
          have b3c : 2 * (root : Int) + 1 < (d0.size : Int) := by omega
          have r3c : IntKind.i64.wrap (2 * (root : Int) + 1) = 2 * (root : Int) + 1 := by rw [IntKind.wrap_i64]; omega
          have l3a := S1.out.ld R hds P (2 * root + 2) (by omega)
          have l3b := S1.out.ld R hds P (2 * root + 1) (by omega)
          simp only [Nat.zero_add] at l3a l3b
          have hc3 := fun (n_ : Nat) (o_ : Array Obj) => hbef.out dk[2 * root + 2]! dk[2 * root + 1]! (grow (wr.drewN n_) o_) (hgd (2 * root + 2) (by omega)) (hgd (2 * root + 1) (by omega)) ⟨dk, hds, S1.out.grown n_ o_⟩
          rw [hL] at hc3
          have H3_ : Aside (lt dk[2 * root + 2]! dk[2 * root + 1]! = true) := hL
          clear hL
          generalize enc dk[2 * root + 2]! = cx3 at l3a hc3
          generalize enc dk[2 * root + 1]! = cy3 at l3b hc3
          go_wp2_with fail
          go_quiet_grown (first | (go_at_fn 101; refine Calls.grown_of (hc3 _ _)))
          have S2 : Aside (SWK enc k w0 blk 0 dk (grow (wr.drewN nq) osq)) := S1.out.grown nq osq
          clear l3a l3b hc3 S1
          generalize grow (wr.drewN nq) osq = w2 at S2 ⊢
          clear nq osq
          go_wp2_with fail
          cases hG : lt dk[2 * root + 2]! dk[root]! with
          | true =>
            have e5a : (2 * (root : Int) + 1 + 1).toNat = 2 * root + 2 := by omega
            have p5a : (0 : Int) ≤ 2 * (root : Int) + 1 + 1 := by omega
            have b5a : 2 * (root : Int) + 1 + 1 < (d0.size : Int) := by omega
            have r5a : IntKind.i64.wrap (2 * (root : Int) + 1 + 1) = 2 * (root : Int) + 1 + 1 := by rw [IntKind.wrap_i64]; omega
            have e5c : ((root : Int)).toNat = root := by omega
            have p5c : (0 : Int) ≤ (root : Int) := by omega
            have b5c : (root : Int) < (d0.size : Int) := by omega
            have r5c : IntKind.i64.wrap ((root : Int)) = (root : Int) := by rw [IntKind.wrap_i64]; omega
            have l5a := S2.out.ld R hds P (2 * root + 2) (by omega)
            have l5b := S2.out.ld R hds P (root) (by omega)
            simp only [Nat.zero_add] at l5a l5b
            have hc5 := fun (n_ : Nat) (o_ : Array Obj) => hbef.out dk[2 * root + 2]! dk[root]! (grow (w2.drewN n_) o_) (hgd (2 * root + 2) (by omega)) (hgd (root) (by omega)) ⟨dk, hds, S2.out.grown n_ o_⟩
            rw [hG] at hc5
            have H5_ : Aside (lt dk[2 * root + 2]! dk[root]! = true) := hG
            clear hG
            generalize enc dk[2 * root + 2]! = cx5 at l5a hc5
            generalize enc dk[root]! = cy5 at l5b hc5
            go_wp2_with fail
            go_quiet_grown (first | (go_at_fn 101; refine Calls.grown_of (hc5 _ _)))
            have S3 : Aside (SWK enc k w0 blk 0 dk (grow (w2.drewN nq) osq)) := S2.out.grown nq osq
            clear l5a l5b hc5 S2
            generalize grow (w2.drewN nq) osq = w3 at S3 ⊢
            clear nq osq
            have e6a : ((root : Int)).toNat = root := by omega
            have p6a : (0 : Int) ≤ (root : Int) := by omega
            have b6a : (root : Int) < (d0.size : Int) := by omega
            have r6a : IntKind.i64.wrap ((root : Int)) = (root : Int) := by rw [IntKind.wrap_i64]; omega
            have e6c : (2 * (root : Int) + 1 + 1).toNat = 2 * root + 2 := by omega
            have p6c : (0 : Int) ≤ 2 * (root : Int) + 1 + 1 := by omega
            have b6c : 2 * (root : Int) + 1 + 1 < (d0.size : Int) := by omega
            have r6c : IntKind.i64.wrap (2 * (root : Int) + 1 + 1) = 2 * (root : Int) + 1 + 1 := by rw [IntKind.wrap_i64]; omega
            have S4 : Aside (SWK enc k w0 blk 0 (swp dk (root) (2 * root + 2)) ((w3.drew.setCells blk (0 + (root) * k) (enc dk[2 * root + 2]!)).setCells blk (0 + (2 * root + 2) * k) (enc dk[root]!))) := S3.out.swapped R (root) (2 * root + 2) (by omega) (by omega)
            have l6a := S3.out.ld1 R hds P (root) (by omega)
            have l6b := S3.out.ld1 R hds P (2 * root + 2) (by omega)
            have s6a := S3.out.st1 R hds P (root) (by omega) dk[2 * root + 2]!
            have s6b := S3.out.st2 R hds P (root) (2 * root + 2) (by omega) (by omega) dk[2 * root + 2]! dk[root]!
            have n6a : (enc dk[root]!).length = k := R.hk _
            have n6b : (enc dk[2 * root + 2]!).length = k := R.hk _
            simp only [Nat.zero_add] at l6a l6b s6a s6b
            generalize enc dk[root]! = cI6 at S4 l6a s6b n6a
            generalize enc dk[2 * root + 2]! = cJ6 at S4 l6b s6a s6b n6b
            clear S3
            go_wp2_with fail
            go_big_region_o
            clear l6a l6b s6a s6b
            have S4 : Aside (SWK enc k w0 blk 0 (swp dk (root) (2 * root + 2)) ((w3.drew.setCells blk ((root) * k) cJ6).setCells blk ((2 * root + 2) * k) cI6)) := by have z_ := S4.out; simp only [Nat.zero_add] at z_; exact z_
            generalize (w3.drew.setCells blk ((root) * k) cJ6).setCells blk ((2 * root + 2) * k) cI6 = w4 at S4 ⊢
            go_wp2
            go_roundg (d0.size - (2 * root + 2))
            case measure => omega
            case rel => exact ⟨2 * root + 2, swp dk root (2 * root + 2), by first | rfl | go_num | (congr 1; omega), by omega, Nat.le_refl _, by rw [size_swp]; exact hds, merge_Samples.good_swp _ _ (by omega) (by omega) HGD.out, S4, (show Hid _ from by show _ = _; rw [← HE.out, sd_right_go (fun x y => lt y x) dk (by omega) (by simp only [Nat.zero_add]; exact H3_) (by simp only [Nat.zero_add]; exact H5_)]; simp only [Nat.zero_add])⟩
          | false =>
            have e5a : (2 * (root : Int) + 1 + 1).toNat = 2 * root + 2 := by omega
            have p5a : (0 : Int) ≤ 2 * (root : Int) + 1 + 1 := by omega
            have b5a : 2 * (root : Int) + 1 + 1 < (d0.size : Int) := by omega
            have r5a : IntKind.i64.wrap (2 * (root : Int) + 1 + 1) = 2 * (root : Int) + 1 + 1 := by rw [IntKind.wrap_i64]; omega
            have e5c : ((root : Int)).toNat = root := by omega
            have p5c : (0 : Int) ≤ (root : Int) := by omega
            have b5c : (root : Int) < (d0.size : Int) := by omega
            have r5c : IntKind.i64.wrap ((root : Int)) = (root : Int) := by rw [IntKind.wrap_i64]; omega
            have l5a := S2.out.ld R hds P (2 * root + 2) (by omega)
            have l5b := S2.out.ld R hds P (root) (by omega)
            simp only [Nat.zero_add] at l5a l5b
            have hc5 := fun (n_ : Nat) (o_ : Array Obj) => hbef.out dk[2 * root + 2]! dk[root]! (grow (w2.drewN n_) o_) (hgd (2 * root + 2) (by omega)) (hgd (root) (by omega)) ⟨dk, hds, S2.out.grown n_ o_⟩
            rw [hG] at hc5
            have H5_ : Aside (lt dk[2 * root + 2]! dk[root]! = false) := hG
            clear hG
            generalize enc dk[2 * root + 2]! = cx5 at l5a hc5
            generalize enc dk[root]! = cy5 at l5b hc5
            go_wp2_with fail
            go_quiet_grown (first | (go_at_fn 101; refine Calls.grown_of (hc5 _ _)))
            have S3 : Aside (SWK enc k w0 blk 0 dk (grow (w2.drewN nq) osq)) := S2.out.grown nq osq
            clear l5a l5b hc5 S2
            generalize grow (w2.drewN nq) osq = w3 at S3 ⊢
            clear nq osq
            go_wp2
            simp only [Exit.noGoto]
            go_end0
            refine ⟨rfl, ?_⟩
            rw [← HE.out, sd_right_stop (fun x y => lt y x) dk (by omega) (by simp only [Nat.zero_add]; exact H3_) (by simp only [Nat.zero_add]; exact H5_)]
            exact S3.out
        | false =>
          have e3a : (2 * (root : Int) + 1 + 1).toNat = 2 * root + 2 := by omega
          have p3a : (0 : Int) ≤ 2 * (root : Int) + 1 + 1 := by omega
          have b3a : 2 * (root : Int) + 1 + 1 < (d0.size : Int) := by omega
          have r3a : IntKind.i64.wrap (2 * (root : Int) + 1 + 1) = 2 * (root : Int) + 1 + 1 := by rw [IntKind.wrap_i64]; omega
          have e3c : (2 * (root : Int) + 1).toNat = 2 * root + 1 := by omega
          have p3c : (0 : Int) ≤ 2 * (root : Int) + 1 := by omega
          have b3c : 2 * (root : Int) + 1 < (d0.size : Int) := by omega
          have r3c : IntKind.i64.wrap (2 * (root : Int) + 1) = 2 * (root : Int) + 1 := by rw [IntKind.wrap_i64]; omega
          have l3a := S1.out.ld R hds P (2 * root + 2) (by omega)
          have l3b := S1.out.ld R hds P (2 * root + 1) (by omega)
          simp only [Nat.zero_add] at l3a l3b
          have hc3 := fun (n_ : Nat) (o_ : Array Obj) => hbef.out dk[2 * root + 2]! dk[2 * root + 1]! (grow (wr.drewN n_) o_) (hgd (2 * root + 2) (by omega)) (hgd (2 * root + 1) (by omega)) ⟨dk, hds, S1.out.grown n_ o_⟩
          rw [hL] at hc3
          have H3_ : Aside (lt dk[2 * root + 2]! dk[2 * root + 1]! = false) := hL
          clear hL
          generalize enc dk[2 * root + 2]! = cx3 at l3a hc3
          generalize enc dk[2 * root + 1]! = cy3 at l3b hc3
          go_wp2_with fail
          go_quiet_grown (first | (go_at_fn 101; refine Calls.grown_of (hc3 _ _)))
          have S2 : Aside (SWK enc k w0 blk 0 dk (grow (wr.drewN nq) osq)) := S1.out.grown nq osq
          clear l3a l3b hc3 S1
          generalize grow (wr.drewN nq) osq = w2 at S2 ⊢
          clear nq osq
          go_wp2_with fail
          cases hG : lt dk[2 * root + 1]! dk[root]! with
          | true =>
            have e5a : (2 * (root : Int) + 1).toNat = 2 * root + 1 := by omega
            have p5a : (0 : Int) ≤ 2 * (root : Int) + 1 := by omega
            have b5a : 2 * (root : Int) + 1 < (d0.size : Int) := by omega
            have r5a : IntKind.i64.wrap (2 * (root : Int) + 1) = 2 * (root : Int) + 1 := by rw [IntKind.wrap_i64]; omega
            have e5c : ((root : Int)).toNat = root := by omega
            have p5c : (0 : Int) ≤ (root : Int) := by omega
            have b5c : (root : Int) < (d0.size : Int) := by omega
            have r5c : IntKind.i64.wrap ((root : Int)) = (root : Int) := by rw [IntKind.wrap_i64]; omega
            have l5a := S2.out.ld R hds P (2 * root + 1) (by omega)
            have l5b := S2.out.ld R hds P (root) (by omega)
            simp only [Nat.zero_add] at l5a l5b
            have hc5 := fun (n_ : Nat) (o_ : Array Obj) => hbef.out dk[2 * root + 1]! dk[root]! (grow (w2.drewN n_) o_) (hgd (2 * root + 1) (by omega)) (hgd (root) (by omega)) ⟨dk, hds, S2.out.grown n_ o_⟩
            rw [hG] at hc5
            have H5_ : Aside (lt dk[2 * root + 1]! dk[root]! = true) := hG
            clear hG
            generalize enc dk[2 * root + 1]! = cx5 at l5a hc5
            generalize enc dk[root]! = cy5 at l5b hc5
            go_wp2_with fail
            go_quiet_grown (first | (go_at_fn 101; refine Calls.grown_of (hc5 _ _)))
            have S3 : Aside (SWK enc k w0 blk 0 dk (grow (w2.drewN nq) osq)) := S2.out.grown nq osq
            clear l5a l5b hc5 S2
            generalize grow (w2.drewN nq) osq = w3 at S3 ⊢
            clear nq osq
            have e6a : ((root : Int)).toNat = root := by omega
            have p6a : (0 : Int) ≤ (root : Int) := by omega
            have b6a : (root : Int) < (d0.size : Int) := by omega
            have r6a : IntKind.i64.wrap ((root : Int)) = (root : Int) := by rw [IntKind.wrap_i64]; omega
            have e6c : (2 * (root : Int) + 1).toNat = 2 * root + 1 := by omega
            have p6c : (0 : Int) ≤ 2 * (root : Int) + 1 := by omega
            have b6c : 2 * (root : Int) + 1 < (d0.size : Int) := by omega
            have r6c : IntKind.i64.wrap (2 * (root : Int) + 1) = 2 * (root : Int) + 1 := by rw [IntKind.wrap_i64]; omega
            have S4 : Aside (SWK enc k w0 blk 0 (swp dk (root) (2 * root + 1)) ((w3.drew.setCells blk (0 + (root) * k) (enc dk[2 * root + 1]!)).setCells blk (0 + (2 * root + 1) * k) (enc dk[root]!))) := S3.out.swapped R (root) (2 * root + 1) (by omega) (by omega)
            have l6a := S3.out.ld1 R hds P (root) (by omega)
            have l6b := S3.out.ld1 R hds P (2 * root + 1) (by omega)
            have s6a := S3.out.st1 R hds P (root) (by omega) dk[2 * root + 1]!
            have s6b := S3.out.st2 R hds P (root) (2 * root + 1) (by omega) (by omega) dk[2 * root + 1]! dk[root]!
            have n6a : (enc dk[root]!).length = k := R.hk _
            have n6b : (enc dk[2 * root + 1]!).length = k := R.hk _
            simp only [Nat.zero_add] at l6a l6b s6a s6b
            generalize enc dk[root]! = cI6 at S4 l6a s6b n6a
            generalize enc dk[2 * root + 1]! = cJ6 at S4 l6b s6a s6b n6b
            clear S3
            go_wp2_with fail
            go_big_region_o
            clear l6a l6b s6a s6b
            have S4 : Aside (SWK enc k w0 blk 0 (swp dk (root) (2 * root + 1)) ((w3.drew.setCells blk ((root) * k) cJ6).setCells blk ((2 * root + 1) * k) cI6)) := by have z_ := S4.out; simp only [Nat.zero_add] at z_; exact z_
            generalize (w3.drew.setCells blk ((root) * k) cJ6).setCells blk ((2 * root + 1) * k) cI6 = w4 at S4 ⊢
            go_wp2
            go_roundg (d0.size - (2 * root + 1))
            case measure => omega
            case rel => exact ⟨2 * root + 1, swp dk root (2 * root + 1), by first | rfl | go_num | (congr 1; omega), by omega, Nat.le_refl _, by rw [size_swp]; exact hds, merge_Samples.good_swp _ _ (by omega) (by omega) HGD.out, S4, (show Hid _ from by show _ = _; rw [← HE.out, sd_left_go (fun x y => lt y x) dk (by omega) (fun _ => by simp only [Nat.zero_add]; exact H3_) (by simp only [Nat.zero_add]; exact H5_)]; simp only [Nat.zero_add])⟩
          | false =>
            have e5a : (2 * (root : Int) + 1).toNat = 2 * root + 1 := by omega
            have p5a : (0 : Int) ≤ 2 * (root : Int) + 1 := by omega
            have b5a : 2 * (root : Int) + 1 < (d0.size : Int) := by omega
            have r5a : IntKind.i64.wrap (2 * (root : Int) + 1) = 2 * (root : Int) + 1 := by rw [IntKind.wrap_i64]; omega
            have e5c : ((root : Int)).toNat = root := by omega
            have p5c : (0 : Int) ≤ (root : Int) := by omega
            have b5c : (root : Int) < (d0.size : Int) := by omega
            have r5c : IntKind.i64.wrap ((root : Int)) = (root : Int) := by rw [IntKind.wrap_i64]; omega
            have l5a := S2.out.ld R hds P (2 * root + 1) (by omega)
            have l5b := S2.out.ld R hds P (root) (by omega)
            simp only [Nat.zero_add] at l5a l5b
            have hc5 := fun (n_ : Nat) (o_ : Array Obj) => hbef.out dk[2 * root + 1]! dk[root]! (grow (w2.drewN n_) o_) (hgd (2 * root + 1) (by omega)) (hgd (root) (by omega)) ⟨dk, hds, S2.out.grown n_ o_⟩
            rw [hG] at hc5
            have H5_ : Aside (lt dk[2 * root + 1]! dk[root]! = false) := hG
            clear hG
            generalize enc dk[2 * root + 1]! = cx5 at l5a hc5
            generalize enc dk[root]! = cy5 at l5b hc5
            go_wp2_with fail
            go_quiet_grown (first | (go_at_fn 101; refine Calls.grown_of (hc5 _ _)))
            have S3 : Aside (SWK enc k w0 blk 0 dk (grow (w2.drewN nq) osq)) := S2.out.grown nq osq
            clear l5a l5b hc5 S2
            generalize grow (w2.drewN nq) osq = w3 at S3 ⊢
            clear nq osq
            go_wp2
            simp only [Exit.noGoto]
            go_end0
            refine ⟨rfl, ?_⟩
            rw [← HE.out, sd_left_stop (fun x y => lt y x) dk (by omega) (fun _ => by simp only [Nat.zero_add]; exact H3_) (by simp only [Nat.zero_add]; exact H5_)]
            exact S3.out
      · have h1z : ¬ (2 * (root : Int) + 1 + 1 < (d0.size : Int)) := by omega
        have h1d : decide (2 * (root : Int) + 1 + 1 < (d0.size : Int)) = false := decide_eq_false h1z
        go_wp2_with fail
        go_big_region_o
        have S2 : Aside (SWK enc k w0 blk 0 dk wr.drew) := S1.out.drew
        clear S1
        generalize wr.drew = w2 at S2 ⊢
        go_wp2_with fail
        cases hG : lt dk[2 * root + 1]! dk[root]! with
        | true =>
          have e5a : (2 * (root : Int) + 1).toNat = 2 * root + 1 := by omega
          have p5a : (0 : Int) ≤ 2 * (root : Int) + 1 := by omega
          have b5a : 2 * (root : Int) + 1 < (d0.size : Int) := by omega
          have r5a : IntKind.i64.wrap (2 * (root : Int) + 1) = 2 * (root : Int) + 1 := by rw [IntKind.wrap_i64]; omega
          have e5c : ((root : Int)).toNat = root := by omega
          have p5c : (0 : Int) ≤ (root : Int) := by omega
          have b5c : (root : Int) < (d0.size : Int) := by omega
          have r5c : IntKind.i64.wrap ((root : Int)) = (root : Int) := by rw [IntKind.wrap_i64]; omega
          have l5a := S2.out.ld R hds P (2 * root + 1) (by omega)
          have l5b := S2.out.ld R hds P (root) (by omega)
          simp only [Nat.zero_add] at l5a l5b
          have hc5 := fun (n_ : Nat) (o_ : Array Obj) => hbef.out dk[2 * root + 1]! dk[root]! (grow (w2.drewN n_) o_) (hgd (2 * root + 1) (by omega)) (hgd (root) (by omega)) ⟨dk, hds, S2.out.grown n_ o_⟩
          rw [hG] at hc5
          have H5_ : Aside (lt dk[2 * root + 1]! dk[root]! = true) := hG
          clear hG
          generalize enc dk[2 * root + 1]! = cx5 at l5a hc5
          generalize enc dk[root]! = cy5 at l5b hc5
          go_wp2_with fail
          go_quiet_grown (first | (go_at_fn 101; refine Calls.grown_of (hc5 _ _)))
          have S3 : Aside (SWK enc k w0 blk 0 dk (grow (w2.drewN nq) osq)) := S2.out.grown nq osq
          clear l5a l5b hc5 S2
          generalize grow (w2.drewN nq) osq = w3 at S3 ⊢
          clear nq osq
          have e6a : ((root : Int)).toNat = root := by omega
          have p6a : (0 : Int) ≤ (root : Int) := by omega
          have b6a : (root : Int) < (d0.size : Int) := by omega
          have r6a : IntKind.i64.wrap ((root : Int)) = (root : Int) := by rw [IntKind.wrap_i64]; omega
          have e6c : (2 * (root : Int) + 1).toNat = 2 * root + 1 := by omega
          have p6c : (0 : Int) ≤ 2 * (root : Int) + 1 := by omega
          have b6c : 2 * (root : Int) + 1 < (d0.size : Int) := by omega
          have r6c : IntKind.i64.wrap (2 * (root : Int) + 1) = 2 * (root : Int) + 1 := by rw [IntKind.wrap_i64]; omega
          have S4 : Aside (SWK enc k w0 blk 0 (swp dk (root) (2 * root + 1)) ((w3.drew.setCells blk (0 + (root) * k) (enc dk[2 * root + 1]!)).setCells blk (0 + (2 * root + 1) * k) (enc dk[root]!))) := S3.out.swapped R (root) (2 * root + 1) (by omega) (by omega)
          have l6a := S3.out.ld1 R hds P (root) (by omega)
          have l6b := S3.out.ld1 R hds P (2 * root + 1) (by omega)
          have s6a := S3.out.st1 R hds P (root) (by omega) dk[2 * root + 1]!
          have s6b := S3.out.st2 R hds P (root) (2 * root + 1) (by omega) (by omega) dk[2 * root + 1]! dk[root]!
          have n6a : (enc dk[root]!).length = k := R.hk _
          have n6b : (enc dk[2 * root + 1]!).length = k := R.hk _
          simp only [Nat.zero_add] at l6a l6b s6a s6b
          generalize enc dk[root]! = cI6 at S4 l6a s6b n6a
          generalize enc dk[2 * root + 1]! = cJ6 at S4 l6b s6a s6b n6b
          clear S3
          go_wp2_with fail
          go_big_region_o
          clear l6a l6b s6a s6b
          have S4 : Aside (SWK enc k w0 blk 0 (swp dk (root) (2 * root + 1)) ((w3.drew.setCells blk ((root) * k) cJ6).setCells blk ((2 * root + 1) * k) cI6)) := by have z_ := S4.out; simp only [Nat.zero_add] at z_; exact z_
          generalize (w3.drew.setCells blk ((root) * k) cJ6).setCells blk ((2 * root + 1) * k) cI6 = w4 at S4 ⊢
          go_wp2
          go_roundg (d0.size - (2 * root + 1))
          case measure => omega
          case rel => exact ⟨2 * root + 1, swp dk root (2 * root + 1), by first | rfl | go_num | (congr 1; omega), by omega, Nat.le_refl _, by rw [size_swp]; exact hds, merge_Samples.good_swp _ _ (by omega) (by omega) HGD.out, S4, (show Hid _ from by show _ = _; rw [← HE.out, sd_left_go (fun x y => lt y x) dk (by omega) (fun h => absurd h h1) (by simp only [Nat.zero_add]; exact H5_)]; simp only [Nat.zero_add])⟩
        | false =>
          have e5a : (2 * (root : Int) + 1).toNat = 2 * root + 1 := by omega
          have p5a : (0 : Int) ≤ 2 * (root : Int) + 1 := by omega
          have b5a : 2 * (root : Int) + 1 < (d0.size : Int) := by omega
          have r5a : IntKind.i64.wrap (2 * (root : Int) + 1) = 2 * (root : Int) + 1 := by rw [IntKind.wrap_i64]; omega
          have e5c : ((root : Int)).toNat = root := by omega
          have p5c : (0 : Int) ≤ (root : Int) := by omega
          have b5c : (root : Int) < (d0.size : Int) := by omega
          have r5c : IntKind.i64.wrap ((root : Int)) = (root : Int) := by rw [IntKind.wrap_i64]; omega
          have l5a := S2.out.ld R hds P (2 * root + 1) (by omega)
          have l5b := S2.out.ld R hds P (root) (by omega)
          simp only [Nat.zero_add] at l5a l5b
          have hc5 := fun (n_ : Nat) (o_ : Array Obj) => hbef.out dk[2 * root + 1]! dk[root]! (grow (w2.drewN n_) o_) (hgd (2 * root + 1) (by omega)) (hgd (root) (by omega)) ⟨dk, hds, S2.out.grown n_ o_⟩
          rw [hG] at hc5
          have H5_ : Aside (lt dk[2 * root + 1]! dk[root]! = false) := hG
          clear hG
          generalize enc dk[2 * root + 1]! = cx5 at l5a hc5
          generalize enc dk[root]! = cy5 at l5b hc5
          go_wp2_with fail
          go_quiet_grown (first | (go_at_fn 101; refine Calls.grown_of (hc5 _ _)))
          have S3 : Aside (SWK enc k w0 blk 0 dk (grow (w2.drewN nq) osq)) := S2.out.grown nq osq
          clear l5a l5b hc5 S2
          generalize grow (w2.drewN nq) osq = w3 at S3 ⊢
          clear nq osq
          go_wp2
          simp only [Exit.noGoto]
          go_end0
          refine ⟨rfl, ?_⟩
          rw [← HE.out, sd_left_stop (fun x y => lt y x) dk (by omega) (fun h => absurd h h1) (by simp only [Nat.zero_add]; exact H5_)]
          exact S3.out
def merge_Samples.kH : Kd merge_Samples.H where
  sz := 2
  E := []
  K := fun _ x cs => cs = merge_Samples.enc x
  M := fun _ _ _ x cs => cs = merge_Samples.enc x
  K_len := fun h => by rw [h]; rfl
  K_one := fun h u hu => by
    rw [h] at hu
    simp only [merge_Samples.enc, List.mem_cons, List.not_mem_nil, or_false] at hu
    rcases hu with rfl | rfl <;> rfl
  K_below := fun _ h => h
  K_of_M := fun h => h
  M_mono := fun _ h => h
  M_bound := fun h => h
  M_move := fun _ h => h
  M_lower := fun _ h => h
theorem merge_Samples.R_own {W : World} {base : Nat} {ok : Nat → Prop} {v : Value} {l : List merge_Samples.H} (h : merge_Samples.kH.R 155 W base ok v l) : W.ownsRow base 155 2 v l.length (l.flatMap merge_Samples.enc) := R_cells (d := merge_Samples.kH) (enc := merge_Samples.enc) (fun h => h) h
theorem merge_Samples.own_R {W : World} {base : Nat} {v : Value} {l : List merge_Samples.H} (h : W.ownsRow base 155 2 v l.length (l.flatMap merge_Samples.enc)) : merge_Samples.kH.R 155 W base (fun _ => True) v l := cells_R (d := merge_Samples.kH) (enc := merge_Samples.enc) (fun _ => rfl) (fun _ _ _ _ => rfl) h (fun _ _ => trivial)
/-- The head of a row of the call's own. -/
theorem merge_Samples.HV_of {W : World} {base g c : Nat} {ok : Nat → Prop} {xs : List S54} (fr : Int) (h : Kd.R k54 54 W base ok (.slice (some ⟨g, 0, none⟩) xs.length c) xs) (hx : xs ≠ []) : merge_Samples.HV W ⟨g, 0, c, xs, fr⟩ ∧ base ≤ g := by
  have own : W.ownsRow base 54 2 (.slice (some ⟨g, 0, none⟩) xs.length c) xs.length (xs.flatMap merge_sorted.encS) := R_cells (enc := merge_sorted.encS) (fun h => k54_openM h) h
  rcases own.2 with ⟨hv, _⟩ | ⟨g', cap', cur, hv, hb, hh, h1, h2, h3, h4⟩
  · cases hv
  injection hv with hv1 hv2 hv3
  injection hv1 with hv1
  injection hv1 with hv1
  subst hv1 hv3
  refine ⟨⟨hx, h1, cur, hh, fun j x hj => ?_⟩, hb⟩
  have hjl : j < xs.length := (List.getElem?_eq_some_iff.1 hj).1
  have hjx : xs[j] = x := (List.getElem?_eq_some_iff.1 hj).2
  have at_ : ∀ c, c < 2 → cur[0 + 2 * j + c]? = (merge_sorted.encS x)[c]? := fun c hc => by
    have e := flatMap_at (enc := merge_sorted.encS) (k := 2) (fun _ => rfl) xs j c hjl hc
    rw [← h4, hjx] at e
    rw [← e, List.getElem?_take_of_lt (by omega), Array.getElem?_toList]
    congr 1
    omega
  exact ⟨at_ 0 (by decide), at_ 1 (by decide)⟩
def merge_Samples.hd (h : merge_Samples.H) : XMg.Hd S54 := (h.fr, h.xs)
def merge_Samples.ltR (x y : merge_Samples.H) : Bool := merge_Samples.bef y x
structure merge_Samples.Q (target out : List S54) (dl : List merge_Samples.H) : Prop where
  inv : XMg.Inv merge_Samples.key target out (dl.map merge_Samples.hd)
  hp : Hp merge_Samples.ltR dl
theorem merge_Samples.hdT_head {h : merge_Samples.H} {s : S54} {tl : List S54} (e : h.xs = s :: tl) : merge_Samples.hdT h = s.f0 := by unfold merge_Samples.hdT rd_T54; rw [e]; rfl
theorem merge_Samples.Q.least {target out : List S54} {h0 : merge_Samples.H} {rest : List merge_Samples.H} {s : S54} {tl : List S54} (q : merge_Samples.Q target out (h0 :: rest)) (e : h0.xs = s :: tl) :
    ∀ g ∈ rest.map merge_Samples.hd, ∀ x ∈ g.2, merge_Samples.key s < merge_Samples.key x ∨ (merge_Samples.key s = merge_Samples.key x ∧ h0.fr < g.1) := by
  intro g hg x hx
  obtain ⟨y, hy, rfl⟩ := List.mem_map.1 hg
  have h1 := q.hp.root merge_Samples.swoR y hy
  unfold merge_Samples.ltR merge_Samples.bef at h1
  simp only [Bool.or_eq_false_iff, Bool.and_eq_false_iff, decide_eq_false_iff_not] at h1
  rw [merge_Samples.hdT_head e] at h1
  obtain ⟨hr, hne⟩ := q.inv.rows _ (List.mem_map_of_mem (List.mem_cons_of_mem h0 hy))
  obtain ⟨z, zl, hz⟩ := List.exists_cons_of_ne_nil hne
  have hz' : y.xs = z :: zl := hz
  rw [merge_Samples.hdT_head hz'] at h1
  have hnd := q.inv.nodup
  rw [List.map_cons, List.map_cons, List.nodup_cons] at hnd
  have hfr : y.fr ≠ h0.fr := fun e2 => hnd.1 (List.mem_map.2 ⟨merge_Samples.hd y, List.mem_map_of_mem hy, e2⟩)
  have hx' : x ∈ z :: zl := by rw [← hz']; exact hx
  rw [hz] at hr
  show s.f0 < x.f0 ∨ (s.f0 = x.f0 ∧ h0.fr < y.fr)
  rcases List.mem_cons.1 hx' with rfl | hx'
  · omega
  · have : z.f0 < x.f0 := (List.pairwise_cons.1 hr).1 x hx'
    omega
def merge_Samples.sunk (l : List merge_Samples.H) : List merge_Samples.H := (siftDown merge_Samples.ltR l.length 0 0 l.toArray).toList
theorem merge_Samples.Q.tail {target out : List S54} {h0 h1 : merge_Samples.H} {rest : List merge_Samples.H} {s : S54} {tl : List S54} (q : merge_Samples.Q target out (h0 :: rest)) (e : h0.xs = s :: tl) (ht : tl ≠ []) (e1 : merge_Samples.hd h1 = (h0.fr, tl)) :
    merge_Samples.Q target (XMg.push merge_Samples.key out s) (merge_Samples.sunk (h1 :: rest)) ∧ (merge_Samples.sunk (h1 :: rest)).Perm (h1 :: rest) := by
  obtain ⟨p1, p2⟩ := Hp.sink merge_Samples.swoR (x := h1) q.hp
  have hi := q.inv
  rw [List.map_cons, show merge_Samples.hd h0 = (h0.fr, s :: tl) from by unfold merge_Samples.hd; rw [e]] at hi
  exact ⟨⟨(hi.round (q.least e) (if_neg ht).symm).perm (by rw [← e1, ← List.map_cons]; exact p2.map _), p1⟩, p2⟩
theorem merge_Samples.Q.last {target out : List S54} {h0 y : merge_Samples.H} {r : List merge_Samples.H} {s : S54} (q : merge_Samples.Q target out (h0 :: (r ++ [y]))) (e : h0.xs = [s]) :
    merge_Samples.Q target (XMg.push merge_Samples.key out s) (merge_Samples.sunk (y :: r)) ∧ (merge_Samples.sunk (y :: r)).Perm (y :: r) := by
  have hsub : Hp merge_Samples.ltR (h0 :: r) := by have := q.hp; rw [← List.cons_append] at this; exact this.sub
  obtain ⟨p1, p2⟩ := Hp.sink merge_Samples.swoR (x := y) hsub
  have hi := q.inv
  rw [List.map_cons, show merge_Samples.hd h0 = (h0.fr, [s]) from by unfold merge_Samples.hd; rw [e]] at hi
  refine ⟨⟨(hi.round (q.least e) (if_pos rfl).symm).perm ((p2.map _).trans ?_), p1⟩, p2⟩
  rw [List.map_cons, List.map_append, List.map_cons, List.map_nil]
  exact List.perm_append_singleton _ _ |>.symm
theorem merge_Samples.Q.one {target out : List S54} {h0 : merge_Samples.H} {s : S54} (q : merge_Samples.Q target out [h0]) (e : h0.xs = [s]) : merge_Samples.Q target (XMg.push merge_Samples.key out s) [] := by
  have hi := q.inv
  rw [List.map_cons, show merge_Samples.hd h0 = (h0.fr, [s]) from by unfold merge_Samples.hd; rw [e]] at hi
  exact ⟨hi.round (q.least e) (if_pos rfl).symm, fun i hi => by simp at hi⟩
def merge_Samples.left (l : List merge_Samples.H) : Nat := (l.map fun h => h.xs.length).sum
theorem merge_Samples.left_perm {l m : List merge_Samples.H} (h : l.Perm m) : merge_Samples.left l = merge_Samples.left m := (h.map _).sum_nat
set_option maxHeartbeats 2000000 in
theorem merge_Samples.sortFunc_nil (A : Option Addr) (cap : Nat) (fv : Value) (w : World) : Calls Try.prog 99 #[.slice A 0 cap, fv] w fun e w' => e = .returned (.tuple #[]) ∧ w' = w := by
  have hlen : Calls Try.prog 154 #[.int .u64 0] w fun e w' => e = .returned (.int .i64 0) ∧ w' = w := by
    have h := Any.bits_Len (SlLaysF0.n15.bits (P := Try.prog) (ρ := Go.Proofs.Ytjilnpbgclnecac.bitsLen_ren) Go.Proofs.Ytjilnpbgclnecac.bitsLen) 0 w (by omega) (by omega)
    rw [show ((Lib.bitLen (0 : Int).toNat : Nat) : Int) = 0 from by simp only [Lib.bitLen]; decide] at h
    exact h
  have HP := Aside0.mk (show Calls Try.prog 153 #[.slice A 0 cap, .int .i64 0, .int .i64 0, .int .i64 0, fv] w (fun e w' => e = .returned (.tuple #[]) ∧ w' = w) from AnyF.pdqsortCmpFunc_none (P := Try.prog) (ρ := Go.Proofs.Ytjilnpbgclnecac.pdqHead_ren) Go.Proofs.Ytjilnpbgclnecac.pdqHead A cap 0 fv w)
  have HLEN := Aside0.mk hlen
  clear hlen
  go_enter Try.func99, Try.ntmps99
  go_wp2_with (first
    | (go_at_call 154; (with_reducible refine HLEN.out.mono ?_); rintro e w1 ⟨rfl, rfl⟩)
    | (go_at_call 153; (with_reducible refine HP.out.mono ?_); rintro e w2 ⟨rfl, rfl⟩))
  go_end0
  exact ⟨rfl, rfl⟩
theorem merge_Samples.sink (blk cap : Nat) (l : List merge_Samples.H) (base : Nat) (w : World) (hs : l.length ≤ 140737488355328) (hok : ∀ h ∈ l, merge_Samples.Ok w blk h)
    (ho : w.ownsRow base 155 2 (.slice (some ⟨blk, 0, none⟩) l.length cap) l.length (l.flatMap merge_Samples.enc)) :
    Calls Try.prog 102 #[.slice (some ⟨blk, 0, none⟩) l.length cap] w fun e w' => e = .returned (.tuple #[]) ∧
      w'.ownsRow base 155 2 (.slice (some ⟨blk, 0, none⟩) l.length cap) l.length ((merge_Samples.sunk l).flatMap merge_Samples.enc) ∧ w.grownBy w' (some blk) := by
  have hk : ∀ x : merge_Samples.H, (merge_Samples.enc x).length = 2 := fun _ => rfl
  have h1 : ∀ x : merge_Samples.H, ∀ v ∈ merge_Samples.enc x, v.oneCell' = true := fun x v hv => by
    simp only [merge_Samples.enc, List.mem_cons, List.not_mem_nil, or_false] at hv
    rcases hv with rfl | rfl <;> rfl
  have R : RowK merge_Samples.enc 2 w blk 0 l.toArray := ⟨hk, h1, holdsK_of_own hk ho rfl, own_lt ho blk rfl⟩
  have hsz : l.toArray.size = l.length := by simp
  have e101 : ∀ args w, (callFunc 101 args).run Try.prog w = .ok (.enter 101 args) w := enters_of Try.func101 (by kernel_rfl) rfl
  have hw := merge_Samples.sink_w merge_Samples.lays 2 Try.isAgg155 Try.sizeOf155 merge_Samples.enc merge_Samples.bef (merge_Samples.Ok w blk) blk cap l.toArray w R (by omega) e101
    (fun x y W hx hy hW => by
      obtain ⟨dk, _, m, os, rfl⟩ := hW
      exact merge_Samples.before x y _ hx.on hy.on)
    (fun i hi => by
      rw [hsz] at hi
      rw [XMg.bang_mem hi]
      exact hok _ (List.getElem_mem hi))
  rw [hsz] at hw
  refine hw.mono ?_
  rintro e w' ⟨rfl, hW⟩
  have hsl : (merge_Samples.sunk l).length = l.length := by
    unfold merge_Samples.sunk
    rw [Array.length_toList, size_siftDown merge_Samples.ltR _ _ l.length 0 _ (by omega)]
    exact hsz
  obtain ⟨o1, o2⟩ := SWK.own (l' := merge_Samples.sunk l) hk ho hsl (by unfold merge_Samples.sunk; rw [Array.toArray_toList]; exact hW)
  exact ⟨rfl, o1, o2⟩
theorem merge_Samples.mem_flat {l : List (List S54)} {x : List S54} (h : x ∈ l) : x.length ≤ l.flatten.length := by
  induction l with
  | nil => cases h
  | cons y l ih =>
    rw [List.flatten_cons, List.length_append]
    rcases List.mem_cons.1 h with rfl | h
    · omega
    · have := ih h; omega
/-- The heads of the first lists. -/
structure merge_Samples.P1 (w W : World) (l0 : List (List S54)) (i : Nat) (v3 : Value) (dl : List merge_Samples.H) : Prop where
  hd : dl.map merge_Samples.hd = XMg.heads merge_Samples.key 0 (l0.take i)
  hv : ∀ h ∈ dl, merge_Samples.HV W h ∧ w.heap.size ≤ h.g
  row : merge_Samples.kH.R 155 W w.heap.size (fun _ => True) v3 dl
  below : Below w.heap.size w W
theorem merge_Samples.P1.on {w W W' : World} {l0 : List (List S54)} {i : Nat} {v3 : Value} {dl : List merge_Samples.H} (h : merge_Samples.P1 w W l0 i v3 dl) (hb : Below W.heap.size W W') : merge_Samples.P1 w W' l0 i v3 dl :=
  ⟨h.hd, fun x hx => ⟨(h.hv x hx).1.keep (hb.block _ (h.hv x hx).1.lt), (h.hv x hx).2⟩, Kd.R_below h.row hb, below_step h.below hb⟩
theorem merge_Samples.info155 : (Try.prog.info? 155).map (fun i => (i.zero, i.size, i.bytes)) = some (some (.agg #[(.slice none 0 0), (.int .i64 0)]), 2, 32) := by kernel_rfl
theorem merge_Samples.P1.nil {w W : World} {l0 : List (List S54)} {i : Nat} {v3 : Value} {dl : List merge_Samples.H} {x : List S54} (h : merge_Samples.P1 w W l0 i v3 dl) (hlt : i < l0.length) (hx : x = l0[i]) (hm : XMg.mrg merge_Samples.key x = []) : merge_Samples.P1 w W l0 (i + 1) v3 dl := by
  refine ⟨?_, h.hv, h.row, h.below⟩
  rw [List.take_succ_eq_append_getElem hlt, XMg.heads_snoc, ← hx, if_pos hm, List.append_nil]
  exact h.hd
theorem merge_Samples.own_setCell {W : World} {base e k g n cap j : Nat} {cs : List Value} (h : W.ownsRow base e k (.slice (some ⟨g, 0, none⟩) n cap) n cs) (v : Value) : (W.setCell ⟨g, j, none⟩ v).ownsRow base e k (.slice (some ⟨g, 0, none⟩) n cap) n (cs.set j v) := by
  rcases h.2 with ⟨hv, _⟩ | ⟨g', cap', cur, hv, hb, hh, h1, h2, h3, h4⟩
  · cases hv
  injection hv with hv1 hv2 hv3
  injection hv1 with hv1
  injection hv1 with hv1
  subst hv1 hv3
  refine ⟨by rw [List.length_set]; exact h.1, .inr ⟨g, cap, _, rfl, hb, blk_set hh j v, h1, h2, by simpa using h3, ?_⟩⟩
  rw [Array.toList_setIfInBounds, List.take_set, h4]
theorem merge_Samples.own_cell {W : World} {base e k g n cap j : Nat} {cs : List Value} {u : Value} (h : W.ownsRow base e k (.slice (some ⟨g, 0, none⟩) n cap) n cs) (hj : cs[j]? = some u) : W.cell? ⟨g, j, none⟩ = some u ∧ W.frozen? ⟨g, j, none⟩ = false := by
  rcases h.2 with ⟨hv, _⟩ | ⟨g', cap', cur, hv, hb, hh, h1, h2, h3, h4⟩
  · cases hv
  injection hv with hv1 hv2 hv3
  injection hv1 with hv1
  injection hv1 with hv1
  subst hv1 hv3
  have hlt : j < n * k := by rw [← h.1]; exact (List.getElem?_eq_some_iff.1 hj).1
  refine ⟨?_, blk_frozen hh j⟩
  rw [blk_cell hh j, ← hj, ← h4, List.getElem?_take_of_lt hlt, Array.getElem?_toList]
theorem merge_Samples.row_typed {W : World} {base e k g n cap : Nat} {cs : List Value} (h : W.ownsRow base e k (.slice (some ⟨g, 0, none⟩) n cap) n cs) : ∃ cur, W.heap[g]? = some (.cells cur e (0, 0)) := by
  obtain ⟨cells, hc⟩ := own_typed h g rfl
  exact ⟨cells, hc⟩
/-- The world between two rounds: the heads' row (block blk), the heads' rows, what is put together so far. -/
structure merge_Samples.PW (w W2 W : World) (blk cap : Nat) (v6 : Value) (out : List S54) (dl : List merge_Samples.H) : Prop where
  row : W.ownsRow w.heap.size 155 2 (.slice (some ⟨blk, 0, none⟩) dl.length cap) dl.length (dl.flatMap merge_Samples.enc)
  hv : ∀ h ∈ dl, h.xs ≠ [] → merge_Samples.HV W h ∧ h.g < W2.heap.size
  blk : blk < W2.heap.size
  out : Kd.R k54 54 W W2.heap.size (fun _ => True) v6 out
  below : Below w.heap.size w W
  le : w.heap.size ≤ W2.heap.size ∧ W2.heap.size ≤ W.heap.size
theorem merge_Samples.PW.on {w W2 W W' : World} {blk cap : Nat} {v6 : Value} {out : List S54} {dl : List merge_Samples.H} (h : merge_Samples.PW w W2 W blk cap v6 out dl) (hb : Below W.heap.size W W') : merge_Samples.PW w W2 W' blk cap v6 out dl :=
  ⟨pw_own_below h.row hb, fun x hx hne => ⟨(h.hv x hx hne).1.keep (hb.block _ (h.hv x hx hne).1.lt), (h.hv x hx hne).2⟩, h.blk, Kd.R_below h.out hb, below_step h.below hb, h.le.1, Nat.le_trans h.le.2 hb.size⟩
/-- The row that is put together has turned. -/
theorem merge_Samples.PW.put {w W2 W W' : World} {blk cap : Nat} {v6 v6' : Value} {out out' : List S54} {dl : List merge_Samples.H} (h : merge_Samples.PW w W2 W blk cap v6 out dl) (hg : W.grownBy W' v6.ownBlock) (ho : Kd.R k54 54 W' W2.heap.size (fun _ => True) v6' out') : merge_Samples.PW w W2 W' blk cap v6' out' dl := by
  have hnb : ∀ g, g < W2.heap.size → some g ≠ v6.ownBlock := fun g hg e => by have := Kd.R_base h.out g e.symm; omega
  refine ⟨?_, fun x hx hne => ?_, h.blk, ho, ?_, h.le.1, Nat.le_trans h.le.2 hg.size⟩
  · exact own_move h.row (fun k hk => by injection hk with hk; subst hk; exact hg.block _ (Nat.lt_of_lt_of_le h.blk h.le.2) (hnb _ h.blk))
  · have := h.hv x hx hne
    exact ⟨this.1.keep (hg.block _ this.1.lt (hnb _ this.2)), this.2⟩
  · exact pw_below_grown h.below v6.ownBlock (Nat.le_trans h.le.1 h.le.2) hg (fun k hk => Nat.le_trans h.le.1 (Kd.R_base h.out k hk))
/-- The heads' row has turned. -/
theorem merge_Samples.PW.turn {w W2 W W' : World} {blk cap : Nat} {v6 : Value} {out : List S54} {dl dl' : List merge_Samples.H} (h : merge_Samples.PW w W2 W blk cap v6 out dl) (hg : W.grownBy W' (some blk)) (hrow : W'.ownsRow w.heap.size 155 2 (.slice (some ⟨blk, 0, none⟩) dl'.length cap) dl'.length (dl'.flatMap merge_Samples.enc))
    (hd : ∀ h' ∈ dl', h'.xs ≠ [] → merge_Samples.HV W h' ∧ h'.g < W2.heap.size) : merge_Samples.PW w W2 W' blk cap v6 out dl' := by
  obtain ⟨cur, hcur⟩ := merge_Samples.row_typed h.row
  have hne : ∀ x, merge_Samples.HV W x → x.g ≠ blk := fun x hx e => by
    obtain ⟨cs, hcs, _⟩ := hx.2.2
    rw [e, hcur] at hcs
    injection hcs with hcs
    injection hcs with _ hcs
    exact absurd hcs (by decide)
  refine ⟨hrow, fun x hx hn => ?_, h.blk, ?_, ?_, h.le.1, Nat.le_trans h.le.2 hg.size⟩
  · have := hd x hx hn
    exact ⟨this.1.keep (hg.block _ this.1.lt (fun e => hne x this.1 (by injection e))), this.2⟩
  · exact Kd.R_mono (Kd.R_step (Kd.R_types h.out hcur (by decide)) (fun k hk hlt => hg.block k hlt (fun e => hk.2 (by injection e)))) (fun _ _ => trivial)
  · exact pw_below_grown h.below (some blk) (Nat.le_trans h.le.1 h.le.2) hg (fun k hk => by injection hk with hk; subst hk; exact own_base h.row _ rfl)
theorem merge_Samples.grown_setCell (W : World) (g j : Nat) (v : Value) : W.grownBy (W.setCell ⟨g, j, none⟩ v) (some g) := by
  obtain ⟨s1, s2, s3, s4⟩ := setCells_same g [v] j W
  exact ⟨s1, s2, s3, by show _ ≤ (W.setCells g j [v]).heap.size; rw [s4]; exact Nat.le_refl _, fun k _ hk => setCells_far [v] j k (fun he => hk (by rw [he]))⟩
theorem merge_Samples.add0 (g n : Nat) : (⟨g, 0, none⟩ : Addr).add n = ⟨g, n, none⟩ := by
  unfold Addr.add
  split
  · rename_i h
    rw [h]
  · simp
theorem merge_Samples.one2 {a b : Int} : ∀ q ∈ [Value.int .i64 a, Value.int .i64 b], q.oneCell' = true := by
  intro q hq
  simp only [List.mem_cons, List.not_mem_nil, or_false] at hq
  rcases hq with rfl | rfl <;> rfl
theorem merge_Samples.store_cells {W : World} {g n : Nat} {x : S54} (h0 : W.cell? ((⟨g, 0, none⟩ : Addr).add (((n : Nat) : Int).toNat * 2)) = some (.int .i64 x.f0)) (h1 : W.cell? ⟨((⟨g, 0, none⟩ : Addr).add (((n : Nat) : Int).toNat * 2)).block, ((⟨g, 0, none⟩ : Addr).add (((n : Nat) : Int).toNat * 2)).off + 1, none⟩ = some (.int .i64 x.f1)) :
    ∀ j u, [Value.int .i64 x.f0, Value.int .i64 x.f1][j]? = some u → W.cell? ⟨g, ((n : Nat) : Int).toNat * k54.sz + j, none⟩ = some u := by
  rw [merge_Samples.add0] at h0 h1
  intro j u hu
  match j with
  | 0 => rw [← hu]; exact h0
  | 1 => rw [← hu]; exact h1
  | j + 2 => simp at hu
theorem merge_Samples.push_last {out q : List S54} {y s : S54} (h : out = q ++ [y]) (hk : out.getLast?.map merge_Samples.key = some s.f0) : XMg.push merge_Samples.key out s = out.set ((q.length : Nat) : Int).toNat s := by
  unfold XMg.push
  rw [if_pos (show out.getLast?.map merge_Samples.key = some (merge_Samples.key s) from hk), h, Int.toNat_natCast]
  simp
theorem merge_Samples.store_facts {W : World} {base g n cap : Nat} {xs : List S54} {x' : S54} {i : Nat} {y0 y1 : Value} (h : Kd.R k54 54 W base (fun _ => True) (.slice (some ⟨g, 0, none⟩) n cap) xs) (h0 : (0 : Int) ≤ (i : Int)) (hi : (i : Int) < (n : Int))
    (hcc : ∀ j u, [y0, y1][j]? = some u → W.cell? ⟨g, (i : Int).toNat * k54.sz + j, none⟩ = some u) :
    W.cell? ⟨g, i * 2, none⟩ = some y0 ∧ W.frozen? ⟨g, i * 2, none⟩ = false ∧ (W.setCell ⟨g, i * 2, none⟩ (.int .i64 x'.f0)).cell? ⟨g, i * 2 + 1, none⟩ = some y1 ∧ (W.setCell ⟨g, i * 2, none⟩ (.int .i64 x'.f0)).frozen? ⟨g, i * 2 + 1, none⟩ = false ∧
    Aside0 (Kd.R k54 54 ((W.setCell ⟨g, i * 2, none⟩ (.int .i64 x'.f0)).setCell ⟨g, i * 2 + 1, none⟩ (.int .i64 x'.f1)) base (fun _ => True) (.slice (some ⟨g, 0, none⟩) n cap) (xs.set (i : Int).toNat x') ∧ W.grownBy ((W.setCell ⟨g, i * 2, none⟩ (.int .i64 x'.f0)).setCell ⟨g, i * 2 + 1, none⟩ (.int .i64 x'.f1)) (some g)) := by
  have hr := Kd.R_seg (okp := fun _ => False) (j := 0) (seg := [.int .i64 x'.f0, .int .i64 x'.f1]) (x' := x') h (i : Int) h0 hi (c := [y0, y1]) rfl hcc (Nat.le_refl 2) (k54_mkM _ _ _ _) (fun _ hk => False.elim hk)
  obtain ⟨_, inner, hown, _⟩ := h
  obtain ⟨cur, hh⟩ := own_typed hown g rfl
  have e0 := hcc 0 y0 rfl
  have e1 := hcc 1 y1 rfl
  rw [Int.toNat_natCast, show k54.sz = 2 from rfl] at e0 e1
  rw [Int.toNat_natCast, show k54.sz = 2 from rfl] at hr
  refine ⟨e0, blk_frozen hh _, ?_, blk_frozen (blk_set hh _ _) _, ⟨by rw [Int.toNat_natCast]; exact hr.1, hr.2⟩⟩
  rw [blk_cell (blk_set hh _ _), Array.getElem?_setIfInBounds_ne (by omega), ← blk_cell hh]
  exact e1
theorem merge_Samples.sunk_nil : merge_Samples.sunk [] = [] := by
  unfold merge_Samples.sunk
  rw [← List.length_eq_zero_iff, Array.length_toList, size_siftDown merge_Samples.ltR _ _ 0 0 _ (by simp)]
  rfl
theorem merge_Samples.PW.tail {w W2 W W7 : World} {blk cap g o c c7 : Nat} {v6 : Value} {out : List S54} {dl2 rest : List merge_Samples.H} {s : S54} {tl : List S54} {fr : Int} {A7 : Option Addr} (hp : merge_Samples.PW w W2 W blk cap v6 out dl2)
    (hc : dl2 = ⟨g, o, c, s :: tl, fr⟩ :: rest) (hcc : (s :: tl).length ≤ c) (ht : tl ≠ []) (hA : A7 = if c = (1 : Int).toNat then some (⟨g, o, none⟩ : Addr) else (some (⟨g, o, none⟩ : Addr)).map (·.add ((1 : Int).toNat * 2))) (hc7 : c7 = c - (1 : Int).toNat)
    (hg : W.grownBy W7 (some blk)) (hrow : W7.ownsRow w.heap.size 155 2 (.slice (some ⟨blk, 0, none⟩) dl2.length cap) dl2.length ((dl2.flatMap merge_Samples.enc).set 0 (.slice A7 tl.length c7))) :
    merge_Samples.PW w W2 W7 blk cap v6 out (⟨g, o + 2, c7, tl, fr⟩ :: rest) := by
  have htl : 0 < tl.length := List.length_pos_iff.mpr ht
  rw [List.length_cons] at hcc
  have hA' : A7 = some ⟨g, o + 2, none⟩ := by
    rw [hA, if_neg (show ¬ c = (1 : Int).toNat from by rw [show (1 : Int).toNat = 1 from rfl]; omega)]
    rfl
  subst hA'
  refine hp.turn hg ?_ ?_
  · rw [hc] at hrow
    exact hrow
  · intro h' hh hne
    rcases List.mem_cons.1 hh with rfl | hh
    · obtain ⟨hv, hlt⟩ := hp.hv _ (by rw [hc]; exact List.mem_cons_self) (by simp)
      obtain ⟨_, _, cs, hcs, hat⟩ := hv
      refine ⟨⟨ht, by rw [hc7]; show tl.length ≤ c - 1; omega, cs, hcs, fun j x hj => ?_⟩, hlt⟩
      have := hat (j + 1) x hj
      exact ⟨by rw [← this.1]; show cs[o + 2 + 2 * j]? = cs[o + 2 * (j + 1)]?; congr 1; omega, by rw [← this.2]; show cs[o + 2 + 2 * j + 1]? = cs[o + 2 * (j + 1) + 1]?; congr 1; omega⟩
    · exact hp.hv _ (by rw [hc]; exact List.mem_cons_of_mem _ hh) hne
theorem merge_Samples.flat_len (l : List merge_Samples.H) : (l.flatMap merge_Samples.enc).length = l.length * 2 := by
  induction l with
  | nil => rfl
  | cons x l ih =>
    rw [List.flatMap_cons, List.length_append, ih, List.length_cons, show (merge_Samples.enc x).length = 2 from rfl]
    omega
theorem merge_Samples.last_cells {r out : List S54} {dl2 rest : List merge_Samples.H} {g o c c7 : Nat} {s : S54} {fr : Int} {A7 : Option Addr} (q : merge_Samples.Q r out dl2) (hc : dl2 = ⟨g, o, c, [s], fr⟩ :: rest) :
    ∃ (n : Nat) (dl3 : List merge_Samples.H) (B : Option Addr) (nb cb : Nat) (fb : Int), dl2.length = n + 1 ∧ dl3.length = n ∧ ((dl2.flatMap merge_Samples.enc).set 0 (.slice A7 0 c7))[n * 2]? = some (.slice B nb cb) ∧ ((dl2.flatMap merge_Samples.enc).set 0 (.slice A7 0 c7))[n * 2 + 1]? = some (.int .i64 fb) ∧
      ((((dl2.flatMap merge_Samples.enc).set 0 (.slice A7 0 c7)).set 0 (.slice B nb cb)).set 1 (.int .i64 fb)).take (n * 2) = dl3.flatMap merge_Samples.enc ∧ (∀ h ∈ dl3, h ∈ dl2) ∧ merge_Samples.Q r (XMg.push merge_Samples.key out s) (merge_Samples.sunk dl3) ∧ (merge_Samples.sunk dl3).Perm dl3 ∧ merge_Samples.left dl2 = merge_Samples.left dl3 + 1 := by
  subst hc
  rcases List.eq_nil_or_concat rest with hr | ⟨r0, y, hr⟩
  · subst hr
    exact ⟨0, [], A7, 0, c7, fr, rfl, rfl, rfl, rfl, rfl, fun h hh => (by cases hh), by rw [merge_Samples.sunk_nil]; exact q.one rfl, by rw [merge_Samples.sunk_nil], rfl⟩
  · rw [List.concat_eq_append] at hr
    subst hr
    obtain ⟨q1, q2⟩ := q.last rfl
    have hl : (r0.flatMap merge_Samples.enc).length = r0.length * 2 := by
      exact merge_Samples.flat_len r0
    have he : ∀ (u : Value), (((⟨g, o, c, [s], fr⟩ : merge_Samples.H) :: (r0 ++ [y])).flatMap merge_Samples.enc).set 0 u = u :: .int .i64 fr :: (r0.flatMap merge_Samples.enc ++ [.slice (some ⟨y.g, y.o, none⟩) y.xs.length y.c, .int .i64 y.fr]) := by
      intro u
      rw [List.flatMap_cons, List.flatMap_append]
      rfl
    refine ⟨r0.length + 1, y :: r0, some ⟨y.g, y.o, none⟩, y.xs.length, y.c, y.fr, by simp, by simp, ?_, ?_, ?_, ?_, q1, q2, ?_⟩
    · rw [he, show (r0.length + 1) * 2 = (r0.flatMap merge_Samples.enc).length + 0 + 1 + 1 from by omega, List.getElem?_cons_succ, List.getElem?_cons_succ, List.getElem?_append_right (by omega)]
      simp
    · rw [he, show (r0.length + 1) * 2 + 1 = (r0.flatMap merge_Samples.enc).length + 1 + 1 + 1 from by omega, List.getElem?_cons_succ, List.getElem?_cons_succ, List.getElem?_append_right (by omega)]
      simp
    · rw [he, show (r0.length + 1) * 2 = (r0.flatMap merge_Samples.enc).length + 1 + 1 from by omega, List.set_cons_zero, List.set_cons_succ, List.set_cons_zero, List.take_succ_cons, List.take_succ_cons, List.take_left']
      · rfl
      · rfl
    · intro h hh
      rcases List.mem_cons.1 hh with rfl | hh <;> simp [*]
    · unfold merge_Samples.left
      simp
      omega
theorem merge_Samples.own_le {W : World} {base e k g n cap : Nat} {cs : List Value} (h : W.ownsRow base e k (.slice (some ⟨g, 0, none⟩) n cap) n cs) : n ≤ cap := by
  rcases h.2 with ⟨hv, _⟩ | ⟨g', cap', cur, hv, hb, hh, h1, h2, h3, h4⟩
  · cases hv
  injection hv with _ _ hv3
  subst hv3
  exact h1
/-- The world behind 'p[0] = p[len(p)-1]'. -/
theorem merge_Samples.PW.last {w W2 W W7 : World} {blk cap n : Nat} {v6 u0 u1 : Value} {out : List S54} {dl2 dl3 : List merge_Samples.H} {l : List Value} (hp : merge_Samples.PW w W2 W blk cap v6 out dl2) (hg : W.grownBy W7 (some blk))
    (hrow : W7.ownsRow w.heap.size 155 2 (.slice (some ⟨blk, 0, none⟩) dl2.length cap) dl2.length l) (hn : dl2.length = n + 1) (h3 : dl3.length = n) (ht : ((l.set 0 u0).set 1 u1).take (n * 2) = dl3.flatMap merge_Samples.enc) (hm : ∀ h ∈ dl3, h ∈ dl2) :
    merge_Samples.PW w W2 ((W7.setCell ⟨blk, 0, none⟩ u0).setCell ⟨blk, 1, none⟩ u1) blk cap v6 out dl3 := by
  refine hp.turn (hg.trans ((merge_Samples.grown_setCell _ _ _ _).trans (merge_Samples.grown_setCell _ _ _ _))) ?_ (fun h hh hne => hp.hv h (hm h hh) hne)
  have h1 := merge_Samples.own_setCell (j := 1) (merge_Samples.own_setCell (j := 0) hrow u0) u1
  have h2 := own_take (m := n) h1 (by omega)
  rw [h3, ← ht]
  exact h2
set_option maxHeartbeats 8000000 in
set_option maxRecDepth 100000 in
theorem merge_Samples.calls (A0 : Option Addr) (c0 : Nat) (l0 : List (List S54)) (r : List S54) (w : World) (hr0 : Kd.C (Kd.slice 54 k54) w A0 l0.length l0) (hc0 : l0.length ≤ c0) (h : merge_Samples.f l0 = some r) :
    Calls Try.prog 38 #[.slice A0 l0.length c0] w fun e w' => ∃ v0_ : Value, e = .returned (v0_) ∧ Kd.R k54 54 w' w.heap.size (fun _ => True) v0_ r ∧ Below w.heap.size w w' := by
  unfold merge_Samples.f at h
  by_cases hlen : l0.length < 1099511627776 ∧ l0.flatten.length < 1099511627776
  case neg => rw [if_neg hlen] at h; cases h
  rw [if_pos hlen] at h
  injection h with h
  obtain ⟨hl1, hl2⟩ := hlen
  have HR := Aside0.mk h
  have HL := Aside0.mk hl1
  have HF := Aside0.mk hl2
  have HC := Aside0.mk hr0
  have hml0 : l0.length ≤ 9223372036854775806 := by omega
  clear hr0 hc0 h hl1 hl2
  go_enter Try.func38, Try.ntmps38
  go_upto_block 0 with fail
  go_cut [3] (fun v3 wx => ∃ dl : List merge_Samples.H, dl.length ≤ l0.length ∧ Aside0 (merge_Samples.P1 w wx l0 l0.length v3 dl))
  case first =>
    go_wp2_with fail
    go_loopg [3, 11] l0.length (fun kx v3 v11 wr => ∃ (i : Nat) (dl : List merge_Samples.H), v11 = .int .i64 i ∧ i ≤ l0.length ∧ l0.length - i ≤ kx ∧ dl.length ≤ i ∧ Aside0 (merge_Samples.P1 w wr l0 i v3 dl))
    case atStart => exact ⟨0, [], rfl, Nat.zero_le _, Nat.le_refl _, Nat.le_refl _, ⟨⟨rfl, fun h hh => (by cases hh), Kd.R_nil _ _ _ _ _, Below.refl _ _⟩⟩⟩
    case round =>
      obtain ⟨i, dl, rfl, hi, hkx, hdl, HP⟩ := hrel
      by_cases hlt : i < l0.length
      · have hltz : (i : Int) < (l0.length : Int) := by omega
        have hi0 : (0 : Int) ≤ (i : Int) := by omega
        obtain ⟨ad, A1, c1, hA, hx, hc1, hC1⟩ := at_L2 HC.out (i : Int) (by omega) hltz
        subst hA
        have hrd : rd_L2 l0 (i : Int) = l0[i] := by unfold rd_L2; simp [hlt]
        rw [hrd] at hx hc1 hC1
        have hmem : l0[i] ∈ l0 := List.getElem_mem hlt
        obtain ⟨x, hxe⟩ : ∃ x, x = l0[i] := ⟨_, rfl⟩
        rw [← hxe] at hx hc1 hC1 hmem
        have hxl := merge_Samples.mem_flat hmem
        have hxs : x.length < 8796093022208 := by have := HF.out; omega
        have hx2 := pw_cell_below HP.out.below hx
        rw [Int.toNat_natCast] at hx2
        have HCL := Aside0.mk (merge_sorted.calls A1 c1 x (XMg.mrg merge_Samples.key x) wr (Kd.C_below hC1 HP.out.below) hc1 (by unfold merge_sorted.f; rw [if_pos hxs]; rfl))
        have HX := Aside0.mk hxe
        have HXL := Aside0.mk (show (XMg.mrg merge_Samples.key x).length ≤ 1099511627776 by have := XMg.mrg_len (key := merge_Samples.key) x; have := HF.out; omega)
        clear hx hc1 hC1 hrd hxe hmem hxl hxs
        go_upto_region 6 with (go_at_call 98; (with_reducible refine HCL.out.mono ?_); rintro e w1 ⟨v5, rfl, ho1, hb1⟩; have HO1 := Aside0.mk ho1; have HB1 := Aside0.mk hb1; clear ho1 hb1)
        have HP2 := Aside0.mk (HP.out.on HB1.out)
        have HSZ := Aside0.mk HP.out.below.size
        clear HP HCL hx2 HB1
        by_cases hm : XMg.mrg merge_Samples.key x = []
        · have HM := Aside0.mk hm
          rw [hm] at HO1
          obtain ⟨A5, c5, e5⟩ := Kd.R_slice HO1.out
          subst e5
          clear hm HO1
          go_wp2
          go_roundg (l0.length - (i + 1))
          case measure => omega
          case rel => exact ⟨i + 1, dl, by go_num, hlt, Nat.le_refl _, by omega, ⟨HP2.out.nil hlt HX.out HM.out⟩⟩
        · have hpos : 0 < (XMg.mrg merge_Samples.key x).length := List.length_pos_iff.mpr hm
          obtain ⟨g5, c5, e5, hg5, _, _⟩ := Kd.R_form HO1.out hpos
          subst e5
          have HV5 := Aside0.mk (merge_Samples.HV_of (i : Int) HO1.out hm)
          have HM := Aside0.mk hm
          obtain ⟨xs, hxs⟩ : ∃ xs, xs = XMg.mrg merge_Samples.key x := ⟨_, rfl⟩
          rw [← hxs] at HV5 HM HXL hpos ⊢
          have HXS := Aside0.mk hxs
          have hposz : (0 : Int) < (xs.length : Int) := by omega
          clear hm HO1 hg5 hxs
          go_wp2_with (first
            | ((with_reducible refine gate_builtin (b := .append) (xs := #[.tmp 21, .tmp 25]) rfl ?_); at_builtin; refine Kd.R_append merge_Samples.kH (w0 := w) w.heap.size rfl (.tmp 21) (.tmp 25) 153 155 (.agg #[(.slice none 0 0), (.int .i64 0)]) 32 rfl Try.underlying153 merge_Samples.info155 rfl (by decide) (by omega) u3 dl ⟨g5, 0, c5, xs, (i : Int)⟩ [.slice (some ⟨g5, 0, none⟩) xs.length c5, .int .i64 (i : Int)] (fun _ => True) (fun _ => False) rfl (by first | (go_simp; done) | (go_simp; rfl)) rfl (fun _ hk => hk.elim) (fun _ _ => trivial) HP2.out.row HP2.out.below HP2.out.below.size (by have := HL.out; omega) ?_; intro v7 w7 ho7 hb7 hg7 _; have HO7 := Aside0.mk ho7; have HB7 := Aside0.mk hb7; have HG7 := Aside0.mk hg7; clear ho7 hb7 hg7))
          go_roundg (l0.length - (i + 1))
          case measure => omega
          case rel =>
            refine ⟨i + 1, dl ++ [⟨g5, 0, c5, xs, (i : Int)⟩], by go_num, hlt, Nat.le_refl _, by simp; omega, ⟨⟨?_, ?_, HO7.out, HB7.out⟩⟩⟩
            · rw [List.take_succ_eq_append_getElem hlt, XMg.heads_snoc, ← HX.out, ← HXS.out, if_neg HM.out, List.map_append, HP2.out.hd, List.length_take, Nat.min_eq_left hi]
              simp [merge_Samples.hd]
            · intro q hq
              have keep : ∀ q : merge_Samples.H, merge_Samples.HV w1 q → merge_Samples.HV w7 q := fun q hv => by
                obtain ⟨cs, hcs, _⟩ := hv.2.2
                exact hv.keep (HG7.out.block q.g hv.lt (Kd.R_ne HP2.out.row hcs (by decide)))
              rcases List.mem_append.1 hq with hq | hq
              · exact ⟨keep q (HP2.out.hv q hq).1, (HP2.out.hv q hq).2⟩
              · obtain rfl := List.mem_singleton.1 hq
                exact ⟨keep _ HV5.out.1, by have := HV5.out.2; have := HSZ.out; show w.heap.size ≤ g5; omega⟩
      · have hltz : ¬ (i : Int) < (l0.length : Int) := by omega
        go_wp2_with fail
        go_meet
        case rel =>
          obtain rfl : i = l0.length := by omega
          exact ⟨dl, hdl, HP⟩
  case rest =>
    obtain ⟨dl, hdl, HP⟩ := hcut
    by_cases hdn : dl = []
    · subst hdn
      obtain ⟨A3, c3, e3⟩ := Kd.R_slice HP.out.row
      subst e3
      go_wp2_with (go_at_call 99; (with_reducible refine (merge_Samples.sortFunc_nil _ _ _ _).mono ?_); rintro e w' ⟨rfl, rfl⟩)
      refine wp_loop_rounds 1 ?_
      rw [rounds_succ]
      go_wp2
      go_ret
      refine ⟨_, rfl, ?_, HP.out.below⟩
      have hh : XMg.heads merge_Samples.key 0 l0 = [] := by have := HP.out.hd; rw [List.take_length] at this; exact this.symm
      have hi := XMg.Inv.start (key := merge_Samples.key) l0
      rw [hh] at hi
      rw [← HR.out, ← hi.done (XMg.mrg_ris _)]
      exact Kd.R_nil _ _ _ _ _
    · have hpos : 0 < dl.length := List.length_pos_iff.mpr hdn
      obtain ⟨blk, cap, e3, hb0, hb1, cells, hcells⟩ := Kd.R_form HP.out.row hpos
      subst e3
      have HS := Aside0.mk (merge_Samples.sortFunc blk cap dl w.heap.size wc hdn (by have := HL.out; omega) (fun h hh => ⟨(HP.out.hv h hh).1, fun e => by
        obtain ⟨cs, hcs, _⟩ := (HP.out.hv h hh).1.2.2
        rw [e, hcells] at hcs
        injection hcs with hcs
        injection hcs with _ hcs
        exact absurd hcs (by decide)⟩) (merge_Samples.R_own HP.out.row))
      have HDN := Aside0.mk hdn
      clear hcells hb0 hb1 hpos hdn
      go_upto_region 10 with (go_at_call 99; (with_reducible refine HS.out.mono ?_); rintro e W2 ⟨rfl, dl1, hperm, hheap, hown, hgr⟩)
      have hQ : merge_Samples.Q r [] dl1 := by
        have hi := XMg.Inv.start (key := merge_Samples.key) l0
        have hh : dl.map merge_Samples.hd = XMg.heads merge_Samples.key 0 l0 := by have := HP.out.hd; rwa [List.take_length] at this
        rw [← hh, HR.out] at hi
        exact ⟨hi.perm (hperm.map _), hheap⟩
      have hlen1 : dl1.length = dl.length := hperm.length_eq
      have hleft : merge_Samples.left dl1 < 1099511627776 := by
        have h1 := XMg.heads_sum (key := merge_Samples.key) l0 0
        have hh : dl.map merge_Samples.hd = XMg.heads merge_Samples.key 0 l0 := by have := HP.out.hd; rwa [List.take_length] at this
        rw [← hh, List.map_map] at h1
        have h2 := HF.out
        rw [merge_Samples.left_perm hperm]
        exact Nat.lt_of_le_of_lt h1 h2
      have hPW : merge_Samples.PW w W2 W2 blk cap (.slice none 0 0) [] dl1 := by
        have hb2 := own_base hown blk rfl
        have hblk : blk < W2.heap.size := own_lt hown blk rfl
        refine ⟨by rw [hlen1]; exact hown, fun h hh _ => ?_, hblk, Kd.R_nil _ _ _ _ _, pw_below_grown HP.out.below (some blk) HP.out.below.size hgr (fun k hk => by injection hk with hk; subst hk; exact hb2), Nat.le_trans HP.out.below.size hgr.size, Nat.le_refl _⟩
        have hv := (HP.out.hv h (hperm.mem_iff.1 hh)).1
        have hv2 : merge_Samples.HV W2 h := hv.keep (hgr.block _ hv.lt (fun e => by
          obtain ⟨cs, hcs, _⟩ := hv.2.2
          exact Kd.R_ne HP.out.row hcs (by decide) e))
        exact ⟨hv2, hv2.lt⟩
      have hdl1 : dl1.length < 1099511627776 := by have := HL.out; omega
      rw [← hlen1]
      have HQ := Aside0.mk hQ
      have HPW := Aside0.mk hPW
      have HLF := Aside0.mk hleft
      have HDL := Aside0.mk hdl1
      have HBW := Aside0.mk hPW.below
      clear hQ hPW hleft hdl1 hlen1 hheap hown hgr hperm HP HS HDN HC hdl hml0
      go_wp2
      go_loopg [3, 6] (merge_Samples.left dl1 + 1) (fun kx v3 v6 wr => ∃ (dl2 : List merge_Samples.H) (out : List S54), v3 = .slice (some ⟨blk, 0, none⟩) dl2.length cap ∧ merge_Samples.left dl2 + 1 ≤ kx ∧ Aside0 (dl2.length < 1099511627776) ∧ Aside0 (out.length + merge_Samples.left dl2 < 1099511627776) ∧ Aside0 (merge_Samples.Q r out dl2) ∧ Aside0 (merge_Samples.PW w W2 wr blk cap v6 out dl2))
      case atStart => exact ⟨dl1, [], rfl, Nat.le_refl _, HDL, ⟨by simpa using HLF.out⟩, HQ, HPW⟩
      case round =>
        clear HQ HPW HLF HDL
        obtain ⟨dl2, out, rfl, hkx, HDL, HLF, HQ, HPW⟩ := hrel
        by_cases hdl : dl2 = []
        · subst hdl
          go_wp2
          go_ret
          have e : out = r := HQ.out.inv.done (by rw [← HR.out]; exact XMg.mrg_ris _)
          refine ⟨_, rfl, ?_, HPW.out.below⟩
          rw [← e]
          exact Kd.R_lower HPW.out.out HPW.out.le.1
        · obtain ⟨h0, rest, hcons⟩ := List.exists_cons_of_ne_nil hdl
          have hne : h0.xs ≠ [] := (HQ.out.inv.rows _ (List.mem_map_of_mem (by rw [hcons]; exact List.mem_cons_self))).2
          obtain ⟨s, tl, hxs⟩ := List.exists_cons_of_ne_nil hne
          obtain ⟨hv0, hg0⟩ := HPW.out.hv h0 (by rw [hcons]; exact List.mem_cons_self) hne
          obtain ⟨_, hcc, cs, hcs, hat⟩ := hv0
          have hs0 := (hat 0 s (by rw [hxs]; rfl)).1
          have hs1 := (hat 0 s (by rw [hxs]; rfl)).2
          obtain ⟨g, o, c, xs, fr⟩ := h0
          obtain ⟨s0, s1⟩ := s
          dsimp only at hxs hcc hcs hs0 hs1 hg0
          subst hxs
          rw [Nat.mul_zero, Nat.add_zero] at hs0 hs1
          have y0 : wr.cell? ⟨g, o, none⟩ = some (.int .i64 s0) := (blk_cell hcs o).trans hs0
          have y1 : wr.cell? ⟨g, o + 1, none⟩ = some (.int .i64 s1) := (blk_cell hcs (o + 1)).trans hs1
          have z0 := (merge_Samples.own_cell (j := 0) HPW.out.row (u := .slice (some ⟨g, o, none⟩) (tl.length + 1) c) (by rw [hcons]; rfl)).1
          have hpz : (0 : Int) < (dl2.length : Int) := by rw [hcons, List.length_cons]; omega
          have hpz2 : (0 : Int) < ((tl.length + 1 : Nat) : Int) := by omega
          have HCO := Aside0.mk hcons
          have HCC := Aside0.mk hcc
          clear hne hcs hat hs0 hs1 hg0 hcc hcons hdl
          obtain ⟨n8, hw8⟩ : ∃ n8 : Int, IntKind.i64.wrap ((out.length : Int) - 1) = n8 := ⟨_, rfl⟩
          have HN8 := Aside0.mk (show n8 = (out.length : Int) - 1 by rw [← hw8, IntKind.wrap_i64]; have := HLF.out; omega)
          obtain ⟨A6, c6, e6⟩ := Kd.R_slice HPW.out.out
          subst e6
          go_upto_region 13 with fail
          refine cwp_world ?_
          intro W3 hW3
          have hb3 : Below wr.heap.size wr W3 := by rw [hW3]; exact below_alloc (Below.refl _ _) _
          have HBK := Aside0.mk (show W3.heap[wr.heap.size]? = some (.cells #[.int .i64 s0, .int .i64 s1] 54 (0, 0)) by rw [hW3]; exact blk_new _ _)
          have HPW3 := Aside0.mk (HPW.out.on hb3)
          obtain ⟨g7, hg7⟩ : ∃ g7, g7 = wr.heap.size := ⟨_, rfl⟩
          rw [← hg7] at HBK ⊢
          clear hW3 hb3 hg7 HPW y0 y1 z0
          go_upto_region 14 with fail
          go_cut [53] (fun cc wx => cc = .bool (decide (out.getLast?.map merge_Samples.key = some s0)) ∧ Aside0 (merge_Samples.PW w W2 wx blk cap (.slice A6 out.length c6) out dl2) ∧ Aside0 (wx.heap[g7]? = some (.cells #[.int .i64 s0, .int .i64 s1] 54 (0, 0))))
          case first =>
            have hb0 : W3.cell? ⟨g7, 0, none⟩ = some (.int .i64 s0) := (blk_cell HBK.out 0).trans rfl
            rcases List.eq_nil_or_concat out with hout | ⟨q, y, hout⟩
            · have hn : n8 = -1 := by rw [HN8.out, hout]; rfl
              have hd : decide (out.getLast?.map merge_Samples.key = some s0) = false := by rw [hout]; rfl
              have HD := Aside0.mk hd
              clear hd hout hw8
              subst hn
              go_quiet (fail)
              go_wp2_with fail
              go_meet
              case rel => exact ⟨by rw [HD.out], ⟨HPW3.out.on (pw_below_drewN (Below.refl _ _) nq)⟩, HBK⟩
            · rw [List.concat_eq_append] at hout
              have hl : out.length = q.length + 1 := by rw [hout]; simp
              have hn : n8 = (q.length : Int) := by rw [HN8.out, hl]; omega
              have hql : (q.length : Int) < (out.length : Int) := by omega
              obtain ⟨_, hmc, hC⟩ := Kd.R_reads' HPW3.out.out
              obtain ⟨ad, hA, hy0, hy1⟩ := at_T54 hC (q.length : Int) (by omega) hql
              subst hA
              have hrd : rd_T54 out (q.length : Int) = y := by unfold rd_T54; rw [hout]; simp
              rw [hrd, Int.toNat_natCast] at hy0 hy1
              have hd : decide (out.getLast?.map merge_Samples.key = some s0) = decide (y.f0 = s0) := by rw [hout]; simp [merge_Samples.key]
              have HD := Aside0.mk hd
              have hq0 : (0 : Int) ≤ (q.length : Int) := by omega
              clear hd hout hw8 hl hrd hy1 hC hmc
              obtain ⟨y0, hy0v⟩ : ∃ y0, y0 = y.f0 := ⟨_, rfl⟩
              rw [← hy0v] at hy0 HD
              clear hy0v
              subst hn
              by_cases hyy : y0 = s0
              · have hyb : (y0 == s0) = true := beq_iff_eq.mpr hyy
                go_quiet (fail)
                go_wp2_with fail
                go_meet
                case rel => exact ⟨by rw [HD.out, decide_eq_true hyy], ⟨HPW3.out.on (pw_below_drewN (Below.refl _ _) nq)⟩, HBK⟩
              · have hyb : (y0 == s0) = false := beq_eq_false_iff_ne.mpr hyy
                go_quiet (fail)
                go_wp2_with fail
                go_meet
                case rel => exact ⟨by rw [HD.out, decide_eq_false hyy], ⟨HPW3.out.on (pw_below_drewN (Below.refl _ _) nq)⟩, HBK⟩
          case rest =>
            obtain ⟨rfl, HPW4, HBK4⟩ := hcut
            have hb0 : wc.cell? ⟨g7, 0, none⟩ = some (.int .i64 s0) := (blk_cell HBK4.out 0).trans rfl
            have hb1 : wc.cell? ⟨g7, 1, none⟩ = some (.int .i64 s1) := (blk_cell HBK4.out 1).trans rfl
            have HO5 := Aside0.mk HPW4.out.out
            go_upto_if 53 with fail
            go_cut [6] (fun v6 wx => Aside0 (merge_Samples.PW w W2 wx blk cap v6 (XMg.push merge_Samples.key out ⟨s0, s1⟩) dl2))
            case first =>
              clear HBK4 HPW3 HBK hw8
              by_cases hpu : out.getLast?.map merge_Samples.key = some s0
              · rw [decide_eq_true hpu]
                have HPU := Aside0.mk hpu
                clear hpu
                obtain ⟨q, y, hout⟩ : ∃ q y, out = q ++ [y] := by
                  rcases List.eq_nil_or_concat out with hout | ⟨q, y, hout⟩
                  · rw [hout] at HPU; cases HPU.out
                  · exact ⟨q, y, by rw [hout, List.concat_eq_append]⟩
                have hl : out.length = q.length + 1 := by rw [hout]; simp
                have hn : n8 = (q.length : Int) := by rw [HN8.out, hl]; omega
                have hql : (q.length : Int) < (out.length : Int) := by omega
                have hq0 : (0 : Int) ≤ (q.length : Int) := by omega
                obtain ⟨gO, cO, eO, _, _, _⟩ := Kd.R_form HO5.out (by omega)
                injection eO with eO1 _ eO2
                subst eO1 eO2 hn
                obtain ⟨_, hmc, hC⟩ := Kd.R_reads' HO5.out
                obtain ⟨ad, hA, hy0, hy1⟩ := at_T54 hC (q.length : Int) hq0 hql
                injection hA with hA
                subst hA
                have HOUT := Aside0.mk hout
                have HY0 := Aside0.mk hy0
                have HY1 := Aside0.mk hy1
                have HMC := Aside0.mk hmc
                clear hout hl hC hy0 hy1 hmc
                have hcc5 := merge_Samples.store_cells HY0.out HY1.out
                have HCC5 := Aside0.mk hcc5
                clear hcc5
                obtain ⟨a0, a1, a2, a3, HRR⟩ := merge_Samples.store_facts (x' := ⟨s0, s1⟩) HO5.out hq0 hql HCC5.out
                clear HCC5 HY0 HY1 HMC
                go_wp2_with fail
                go_meet
                case rel => exact ⟨HPW4.out.put HRR.out.2 (by rw [merge_Samples.push_last HOUT.out HPU.out]; exact HRR.out.1)⟩
              · rw [decide_eq_false hpu]
                have HPU := Aside0.mk hpu
                clear hpu
                go_wp2_with (first
                  | ((with_reducible refine gate_builtin (b := .append) (xs := #[.tmp 58, .tmp 60]) rfl ?_); at_builtin; refine Kd.R_append k54 (w0 := wc) W2.heap.size rfl (.tmp 58) (.tmp 60) 60 54 (.agg #[(.int .i64 0), (.int .i64 0)]) 16 rfl Try.underlying60 info54 rfl (by decide) (by omega) (.slice A6 out.length c6) out ⟨s0, s1⟩ [.int .i64 s0, .int .i64 s1] (fun _ => True) (fun _ => False) rfl (by first | (go_simp; done) | (go_simp; rfl)) (k54_mkM _ _ _ _) (fun _ hk => hk.elim) (fun _ _ => trivial) HO5.out (Below.refl _ _) HPW4.out.le.2 (by have := HLF.out; omega) ?_; intro v7 w7 ho7 hb7 hg7 _; have HO7 := Aside0.mk ho7; have HG7 := Aside0.mk hg7; clear ho7 hb7 hg7))
                go_meet
                case rel => exact ⟨HPW4.out.put HG7.out (by unfold XMg.push; rw [if_neg (show ¬ (out.getLast?.map merge_Samples.key = some (merge_Samples.key ⟨s0, s1⟩)) from HPU.out)]; exact HO7.out)⟩
            case rest =>
              have HP7 := hcut
              clear HO5 hb0 hb1 HPW4 HBK4 HPW3 HBK hw8 hcut HN8
              obtain ⟨z0, z1⟩ := merge_Samples.own_cell (j := 0) HP7.out.row (u := .slice (some ⟨g, o, none⟩) (tl.length + 1) c) (by rw [HCO.out]; rfl)
              obtain ⟨A7, HA7⟩ : ∃ A7, Aside0 (A7 = if c = (1 : Int).toNat then some (⟨g, o, none⟩ : Addr) else (some (⟨g, o, none⟩ : Addr)).map (·.add ((1 : Int).toNat * 2))) := ⟨_, ⟨rfl⟩⟩
              obtain ⟨i054, hi0, _, hsz0, _⟩ := info_parts info54
              have hcut7 := cut_from (P := Try.prog) 60 54 .i64 Try.underlying60 hi0 2 hsz0 (some ⟨g, o, none⟩) (tl.length + 1) c 1 (by decide) (by omega)
              rw [← HA7.out] at hcut7
              rw [show tl.length + 1 - (1 : Int).toNat = tl.length from rfl] at hcut7
              obtain ⟨c7, hc7⟩ : ∃ c7, c7 = c - (1 : Int).toNat := ⟨_, rfl⟩
              rw [← hc7] at hcut7
              have HC7 := Aside0.mk hc7
              clear hc7 hi0 hsz0
              go_upto_region 18 with fail
              refine cwp_world ?_
              intro W7 hW7
              have hrow7 := merge_Samples.own_setCell (j := 0) HP7.out.row (.slice A7 tl.length c7)
              have hg7 : wc.grownBy W7 (some blk) := by rw [hW7]; exact merge_Samples.grown_setCell _ _ _ _
              rw [← hW7] at hrow7
              obtain ⟨y0, _⟩ := merge_Samples.own_cell (j := 0) hrow7 (u := .slice A7 tl.length c7) (by rw [HCO.out]; rfl)
              have HR7 := Aside0.mk hrow7
              have HG7 := Aside0.mk hg7
              clear hW7 z0 z1 hrow7 hg7 hcut7
              go_upto_if 75 with fail
              go_cut [3] (fun v3 wx => ∃ dl3 : List merge_Samples.H, v3 = .slice (some ⟨blk, 0, none⟩) dl3.length cap ∧ dl3.length ≤ dl2.length ∧ Aside0 (merge_Samples.PW w W2 wx blk cap u6 (XMg.push merge_Samples.key out ⟨s0, s1⟩) dl3) ∧ Aside0 (merge_Samples.Q r (XMg.push merge_Samples.key out ⟨s0, s1⟩) (merge_Samples.sunk dl3)) ∧ Aside0 ((merge_Samples.sunk dl3).Perm dl3) ∧ Aside0 (merge_Samples.left dl2 = merge_Samples.left dl3 + 1))
              case first =>
                by_cases htl : tl = []
                · subst htl
                  obtain ⟨n, dl3, B, nb, cb, fb, hn, hn3, hu0, hu1, htk, hmm, hq3, hpm, hle⟩ := merge_Samples.last_cells (A7 := A7) (c7 := c7) HQ.out HCO.out
                  have c0 := (merge_Samples.own_cell HR7.out hu0).1
                  have c1 := (merge_Samples.own_cell HR7.out hu1).1
                  obtain ⟨cur, hcur⟩ := own_typed HR7.out blk rfl
                  have f0 : W7.frozen? ⟨blk, 0, none⟩ = false := blk_frozen hcur 0
                  have f1 : (W7.setCell ⟨blk, 0, none⟩ (.slice B nb cb)).frozen? ⟨blk, 1, none⟩ = false := blk_frozen (blk_set hcur _ _) 1
                  have y1 : (W7.setCell ⟨blk, 0, none⟩ (.slice B nb cb)).cell? ⟨blk, 1, none⟩ = some (.int .i64 fr) := (merge_Samples.own_cell (j := 1) (merge_Samples.own_setCell (j := 0) HR7.out _) (by rw [HCO.out]; rfl)).1
                  have hwn : IntKind.i64.wrap ((dl2.length : Int) - 1) = (n : Int) := by rw [IntKind.wrap_i64]; have := HDL.out; omega
                  have hn0 : (0 : Int) ≤ (n : Int) := by omega
                  have hn1 : (n : Int) < (dl2.length : Int) := by omega
                  obtain ⟨i155, hi5, _, _, _⟩ := info_parts merge_Samples.info155
                  have hcutn := cut_to (P := Try.prog) 153 155 .i64 Try.underlying153 hi5 (some ⟨blk, 0, none⟩) dl2.length cap (n : Int) hn0 (Int.le_of_lt hn1) (merge_Samples.own_le HP7.out.row)
                  rw [Int.toNat_natCast] at hcutn
                  have HN := Aside0.mk hn
                  have HN3 := Aside0.mk hn3
                  have HPP := Aside0.mk (HP7.out.last HG7.out HR7.out hn hn3 htk hmm)
                  have HF3 := Aside0.mk (And.intro hq3 (And.intro hpm hle))
                  clear hi5 hcur hu0 hu1 htk hmm hq3 hpm hle hn hn3
                  go_wp2_with fail
                  go_meet
                  case rel => exact ⟨dl3, by rw [HN3.out], by have := HN.out; have := HN3.out; omega, HPP, ⟨HF3.out.1⟩, ⟨HF3.out.2.1⟩, ⟨HF3.out.2.2⟩⟩
                · have htb : ((tl.length : Int) == 0) = false := beq_eq_false_iff_ne.mpr (by have := List.length_pos_iff.mpr htl; omega)
                  have HT := Aside0.mk htl
                  clear htl
                  go_wp2_with fail
                  go_meet
                  case rel =>
                    have hq := merge_Samples.Q.tail (h1 := ⟨g, o + 2, c7, tl, fr⟩) (h0 := ⟨g, o, c, ⟨s0, s1⟩ :: tl, fr⟩) (rest := rest) (HCO.out ▸ HQ.out) rfl HT.out rfl
                    refine ⟨⟨g, o + 2, c7, tl, fr⟩ :: rest, by rw [HCO.out]; rfl, by rw [HCO.out]; exact Nat.le_refl _, ⟨HP7.out.tail HCO.out HCC.out HT.out HA7.out HC7.out HG7.out HR7.out⟩, ⟨hq.1⟩, ⟨hq.2⟩, ⟨?_⟩⟩
                    rw [HCO.out]
                    unfold merge_Samples.left
                    simp
                    omega
              case rest =>
                obtain ⟨dl3, rfl, hd32, HP8, HQ8, HPM, HLE⟩ := hcut
                clear HR7 HG7 HA7 HC7 HP7 y0
                have hpl := XMg.push_len (key := merge_Samples.key) out ⟨s0, s1⟩
                have HLN := Aside0.mk (show (XMg.push merge_Samples.key out ⟨s0, s1⟩).length + merge_Samples.left (merge_Samples.sunk dl3) < 1099511627776 by have := merge_Samples.left_perm HPM.out; have := HLE.out; have := HLF.out; omega)
                have HD3 := Aside0.mk (show (merge_Samples.sunk dl3).length < 1099511627776 by have := HPM.out.length_eq; have := HDL.out; omega)
                have hms : merge_Samples.left (merge_Samples.sunk dl3) + 1 = merge_Samples.left dl2 := by rw [merge_Samples.left_perm HPM.out]; exact HLE.out.symm
                clear hpl
                by_cases hd3 : dl3 = []
                · subst hd3
                  go_wp2_with fail
                  go_roundg (merge_Samples.left (merge_Samples.sunk []) + 1)
                  case measure => omega
                  case rel => exact ⟨merge_Samples.sunk [], _, by rw [merge_Samples.sunk_nil]; rfl, Nat.le_refl _, HD3, HLN, HQ8, by rw [merge_Samples.sunk_nil]; exact HP8⟩
                · have hpz3 : (0 : Int) < (dl3.length : Int) := by have := List.length_pos_iff.mpr hd3; omega
                  have HOK : ∀ h ∈ merge_Samples.sunk dl3, h.xs ≠ [] := fun h hh => (HQ8.out.inv.rows _ (List.mem_map_of_mem hh)).2
                  have HS := Aside0.mk (merge_Samples.sink blk cap dl3 w.heap.size wc (by have := HDL.out; omega) (fun h hh => ⟨(HP8.out.hv h hh (HOK h (HPM.out.mem_iff.2 hh))).1, fun e => by
                    obtain ⟨cs, hcs, _⟩ := (HP8.out.hv h hh (HOK h (HPM.out.mem_iff.2 hh))).1.2.2
                    obtain ⟨cur, hcur⟩ := own_typed HP8.out.row blk rfl
                    rw [e, hcur] at hcs
                    injection hcs with hcs
                    injection hcs with _ hcs
                    exact absurd hcs (by decide)⟩) HP8.out.row)
                  have HSL := Aside0.mk HPM.out.length_eq
                  clear HOK
                  go_wp2_with (go_at_call 102; (with_reducible refine HS.out.mono ?_); rintro e W9 ⟨rfl, hown9, hg9⟩; have HO9 := Aside0.mk hown9; have HG9 := Aside0.mk hg9; clear hown9 hg9)
                  go_roundg (merge_Samples.left (merge_Samples.sunk dl3) + 1)
                  case measure => omega
                  case rel => exact ⟨merge_Samples.sunk dl3, _, by rw [HSL.out], Nat.le_refl _, HD3, HLN, HQ8, ⟨HP8.out.turn HG9.out (by rw [HSL.out]; exact HO9.out) (fun h hh hne => HP8.out.hv h (HPM.out.mem_iff.1 hh) hne)⟩⟩
end


end Go.Proofs.Ytjilnpbgclnecac.PMergeSeries
