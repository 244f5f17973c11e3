/- Parts of the proof of the law's row, put together: see the theorems' own lines. -/
import Derived.Test.YtcgocdhffcnleaaVHeadCutsai
import Derived.Test.YtcgocdhffcnleaaVHeadCutsaj
import Derived.Test.YtcgocdhffcnleaaVHeadCutsam
import Derived.Test.YtcgocdhffcnleaaVHeadCutsan
import Derived.Test.YtcgocdhffcnleaaVHeadCutsao
import Derived.Test.YtcgocdhffcnleaaVHeadCutsap
import Derived.Test.YtcgocdhffcnleaaVHeadCutsau
import Derived.Test.YtcgocdhffcnleaaVHeadCutsag
import Derived.Shelf.SlSortCmp.WholeK
import Derived.Maps.RangeWalk
/- A part of the proofs about the head: see the theorems' own lines. -/
namespace Go.Proofs.Ytcgocdhffcnleaa.PHead
open Go Go.RowKit Go.Proofs.YtcgocdhffcnleaaW.PrintWords Go.Proofs.YtcgocdhffcnleaaW.PrintLast Go.Proofs.YtcgocdhffcnleaaW.PrintMore Go.Proofs.Ytcgocdhffcnleaa.XB Go.Proofs.Ytcgocdhffcnleaa.PHeadPlays Go.Proofs.Ytcgocdhffcnleaa.XH
set_option linter.unusedVariables false
set_option linter.unusedSimpArgs false
/-! ### rows of series as headers; the comparer (turned from the Merge laws' text) -/
section
open Go.Sort Go.Shelf Go.Lib Go.Proofs.Ytcgocdhffcnleaa.XSr
/-! ### the order -/
def Sr.labs (l : List S53) : List (List UInt8 × List UInt8) := l.map fun x => (x.f0.toList, x.f1.toList)
def Sr.c (a b : List S53) : Int := Go.Proofs.Ytcgocdhffcnleaa.XLab.lc (Sr.labs a) (Sr.labs b)
theorem Sr.toList_inj {a b : ByteArray} (h : a.toList = b.toList) : a = b := by
  have h2 : a.data.toList = b.data.toList := by rw [← Go.ByteArray.toList_eq, ← Go.ByteArray.toList_eq]; exact h
  cases a; cases b
  simpa using h2
theorem Sr.labs_inj : ∀ {a b : List S53}, Sr.labs a = Sr.labs b → a = b
  | [], [], _ => rfl
  | [], _ :: _, h => by cases h
  | _ :: _, [], h => by cases h
  | ⟨a0, a1⟩ :: a, ⟨b0, b1⟩ :: b, h => by
    injection h with h1 h2
    injection h1 with h3 h4
    have e3 : a0 = b0 := Sr.toList_inj h3
    have e4 : a1 = b1 := Sr.toList_inj h4
    rw [e3, e4, Sr.labs_inj h2]
theorem Sr.c_ord : Go.Proofs.Ytcgocdhffcnleaa.XSer.Ord Sr.c := ⟨fun x y => ⟨fun h => Sr.labs_inj ((Go.Proofs.Ytcgocdhffcnleaa.XLab.lc_zero _ _).1 h), fun h => (Go.Proofs.Ytcgocdhffcnleaa.XLab.lc_zero _ _).2 (by rw [h])⟩, fun x y => Go.Proofs.Ytcgocdhffcnleaa.XLab.lc_anti _ _, fun x y z => Go.Proofs.Ytcgocdhffcnleaa.XLab.lc_tr _ _ _⟩
/-- A series that came in: where its two rows lie. -/
structure Sr.H where
  A : Option Addr
  c : Nat
  B : Option Addr
  d : Nat
  x : S68
instance : Inhabited Sr.H := ⟨⟨none, 0, none, 0, z68⟩⟩
def Sr.enc (h : Sr.H) : List Value := [.slice h.A h.x.f0.length h.c, .slice h.B h.x.f1.length h.d]
def Sr.HV (w : World) (h : Sr.H) : Prop := h.x.f0.length ≤ h.c ∧ k53.C w h.A h.x.f0.length h.x.f0 ∧ h.x.f1.length ≤ h.d ∧ k44.C w h.B h.x.f1.length h.x.f1
theorem Sr.HV.below {w W : World} {h : Sr.H} (hv : Sr.HV w h) (hb : Below w.heap.size w W) : Sr.HV W h := ⟨hv.1, Kd.C_below hv.2.1 hb, hv.2.2.1, Kd.C_below hv.2.2.2 hb⟩
def Sr.kH : Kd Sr.H where
  sz := 2
  E := []
  K := fun _ x cs => cs = Sr.enc x
  M := fun _ _ _ x cs => cs = Sr.enc x
  K_len := fun h => by rw [h]; rfl
  K_one := fun h u hu => by
    rw [h] at hu
    simp only [Sr.enc, List.mem_cons, List.not_mem_nil, or_false] at hu
    rcases hu with rfl | rfl <;> rfl
  K_below := fun _ h => h
  K_of_M := fun h => h
  M_mono := fun _ h => h
  M_bound := fun h => h
  M_move := fun _ h => h
  M_lower := fun _ h => h
theorem Sr.R_own {W : World} {base : Nat} {ok : Nat → Prop} {v : Value} {l : List Sr.H} (h : Sr.kH.R 68 W base ok v l) : W.ownsRow base 68 2 v l.length (l.flatMap Sr.enc) := R_cells (d := Sr.kH) (enc := Sr.enc) (fun h => h) h
theorem Sr.own_R {W : World} {base : Nat} {v : Value} {l : List Sr.H} (h : W.ownsRow base 68 2 v l.length (l.flatMap Sr.enc)) : Sr.kH.R 68 W base (fun _ => True) v l := cells_R (d := Sr.kH) (enc := Sr.enc) (fun _ => rfl) (fun _ _ _ _ => rfl) h (fun _ _ => trivial)
/-! ### the comparer -/
theorem Sr.cmpS (a b : ByteArray) : cmp_Compare_string.f a b = some (Go.Proofs.Ytcgocdhffcnleaa.XLab.sc a.toList b.toList) := by
  unfold cmp_Compare_string.f cmp_isNaN_string.f Go.Proofs.Ytcgocdhffcnleaa.XLab.sc
  simp only [Option.bind_some, bne_self_eq_false]
  rw [if_neg (by decide), if_neg (by decide)]
  split
  · rfl
  · split <;> rfl
theorem Sr.cmpI (a b : Int) : cmp_Compare_int.f a b = some (if a < b then -1 else if a > b then 1 else 0) := by
  unfold cmp_Compare_int.f cmp_isNaN_int.f
  simp only [Option.bind_some, bne_self_eq_false]
  rw [if_neg (by decide), if_neg (by decide)]
  split
  · rfl
  · split <;> rfl
theorem Sr.cmpOr (a b : Int) : Ev (fun k => cmp_Or_int.f k [a, b]) (if a ≠ 0 then a else b) := by
  unfold cmp_Or_int.f
  by_cases h : a = 0
  · by_cases h2 : b = 0
    · refine Go.Proofs.Ytcgocdhffcnleaa.XP.ev_eq (Ev.of (fun k => (cmp_Or_int.mono_l k) _ _ _ _) (k := 3) (r := 0) ?_) (by simp [h, h2])
      simp [cmp_Or_int.l0, Go.Proofs.YtcgocdhffcnleaaW.PrintWords.rd, h, h2, wrap64]
    · refine Go.Proofs.Ytcgocdhffcnleaa.XP.ev_eq (Ev.of (fun k => (cmp_Or_int.mono_l k) _ _ _ _) (k := 2) (r := b) ?_) (by simp [h])
      simp [cmp_Or_int.l0, Go.Proofs.YtcgocdhffcnleaaW.PrintWords.rd, h, h2, wrap64]
  · refine Go.Proofs.Ytcgocdhffcnleaa.XP.ev_eq (Ev.of (fun k => (cmp_Or_int.mono_l k) _ _ _ _) (k := 1) (r := a) ?_) (by simp [h])
    simp [cmp_Or_int.l0, Go.Proofs.YtcgocdhffcnleaaW.PrintWords.rd, h]
theorem Sr.rdB {l : List S53} {i : Nat} (h : i < l.length) : rd_T53 l (i : Int) = l[i] := by
  unfold rd_T53
  rw [Int.toNat_natCast, List.getD_eq_getElem?_getD, List.getElem?_eq_getElem h]; rfl
theorem Sr.labs_drop (l : List S53) {i : Nat} (h : i < l.length) : Sr.labs (l.drop i) = (l[i].f0.toList, l[i].f1.toList) :: Sr.labs (l.drop (i + 1)) := by
  rw [List.drop_eq_getElem_cons h]
  rfl
theorem Sr.cmp_l0 (a b : List S53) (m : Nat) (hm : m = min a.length b.length) (hn : m < 9223372036854775807) : ∀ (d i : Nat), i + d = m → Ev (fun k => labels_Cmp.l0 k a b (m : Int) (i : Int)) (Go.Proofs.Ytcgocdhffcnleaa.XLab.lc (Sr.labs (a.drop i)) (Sr.labs (b.drop i))) := by
  intro d
  induction d with
  | zero =>
    intro i hi
    refine Ev.step (f := fun _ => (cmp_Compare_int.f (a.length : Int) (b.length : Int)).bind fun t126 => some t126) (fun k => ?_) (Go.Proofs.Ytcgocdhffcnleaa.XP.ev_one_bind (Sr.cmpI _ _) (Go.Proofs.Ytcgocdhffcnleaa.XP.ev_eq (Ev.now _) ?_))
    · rw [labels_Cmp.l0, if_neg (by omega)]
    · by_cases h1 : a.length ≤ i
      · rw [List.drop_of_length_le h1]
        by_cases h2 : b.length ≤ i
        · rw [List.drop_of_length_le h2, if_neg (by omega), if_neg (by omega)]
          rfl
        · rw [Sr.labs_drop b (by omega), if_pos (by omega)]
          rfl
      · rw [List.drop_of_length_le (show b.length ≤ i by omega), Sr.labs_drop a (by omega), if_neg (by omega), if_pos (by omega)]
        rfl
  | succ d ih =>
    intro i hi
    have h1 : i < a.length := by omega
    have h2 : i < b.length := by omega
    rw [Sr.labs_drop a h1, Sr.labs_drop b h2]
    refine Ev.step (f := fun k => (cmp_Compare_string.f a[i].f0 b[i].f0).bind fun t129 => (cmp_Compare_string.f a[i].f1 b[i].f1).bind fun t132 => (cmp_Or_int.f k [t129, t132]).bind fun t136 => if t136 = 0 then labels_Cmp.l0 k a b (m : Int) ((i + 1 : Nat) : Int) else some t136) (fun k => ?_) ?_
    · rw [labels_Cmp.l0, if_pos (by omega), if_pos (by omega), if_pos (by omega), if_pos (by omega), Sr.rdB h1, Sr.rdB h2, show wrap64 ((i : Int) + 1) = ((i + 1 : Nat) : Int) from by rw [Go.Proofs.Ytcgocdhffcnleaa.XP.w64 (by omega) (by omega)]; omega]
    · refine Go.Proofs.Ytcgocdhffcnleaa.XP.ev_one_bind (Sr.cmpS _ _) (Go.Proofs.Ytcgocdhffcnleaa.XP.ev_one_bind (Sr.cmpS _ _) (Ev.bind (Sr.cmpOr _ _) ?_))
      by_cases z1 : Go.Proofs.Ytcgocdhffcnleaa.XLab.sc a[i].f0.toList b[i].f0.toList = 0
      · by_cases z2 : Go.Proofs.Ytcgocdhffcnleaa.XLab.sc a[i].f1.toList b[i].f1.toList = 0
        · exact Go.Proofs.Ytcgocdhffcnleaa.XP.ev_if_pos (by simp [z1, z2]) (Go.Proofs.Ytcgocdhffcnleaa.XP.ev_eq (ih (i + 1) (by omega)) (by simp [Go.Proofs.Ytcgocdhffcnleaa.XLab.lc, z1, z2]))
        · exact Go.Proofs.Ytcgocdhffcnleaa.XP.ev_if_neg (by simp [z1, z2]) (Go.Proofs.Ytcgocdhffcnleaa.XP.ev_eq (Ev.now _) (by simp [Go.Proofs.Ytcgocdhffcnleaa.XLab.lc, z1, z2]))
      · exact Go.Proofs.Ytcgocdhffcnleaa.XP.ev_if_neg (by simp [z1]) (Go.Proofs.Ytcgocdhffcnleaa.XP.ev_eq (Ev.now _) (by simp [Go.Proofs.Ytcgocdhffcnleaa.XLab.lc, z1]))
theorem Sr.cmp_ev {a b : List S53} (ha : a.length < 9223372036854775807) (hb : b.length < 9223372036854775807) : ∃ k, labels_Cmp.f k a b = some (Sr.c a b) := by
  have h : Ev (fun k => labels_Cmp.f k a b) (Sr.c a b) := by
    unfold labels_Cmp.f
    rw [show mn (a.length : Int) (b.length : Int) = ((min a.length b.length : Nat) : Int) from by unfold mn; split <;> omega]
    exact Sr.cmp_l0 a b (min a.length b.length) rfl (by omega) (min a.length b.length) 0 (by omega)
  exact h.rounds
theorem Sr.cmp (A0 : Option Addr) (c0 : Nat) (a : List S53) (A1 : Option Addr) (c1 : Nat) (b : List S53) (w : World) (hr0 : Kd.C k53 w A0 a.length a) (hc0 : a.length ≤ c0) (hr1 : Kd.C k53 w A1 b.length b) (hc1 : b.length ≤ c1) (ha : a.length < 1099511627776) (hb : b.length < 1099511627776) :
    Calls Try.prog 123 #[.slice A0 a.length c0, .slice A1 b.length c1] w fun e w' => e = .returned (.int .i64 (Sr.c a b)) ∧ Go.Proofs.Ytcgocdhffcnleaa.XBd.BD w w' := by
  obtain ⟨k, hk⟩ := Sr.cmp_ev (a := a) (b := b) (by omega) (by omega)
  exact labels_Cmp.growsB k A0 c0 a A1 c1 b _ w hr0 hc0 hr1 hc1 hk
set_option maxHeartbeats 4000000 in
set_option maxRecDepth 100000 in
theorem Sr.clos (x y : Sr.H) (W : World) (hx : Sr.HV W x) (hy : Sr.HV W y) (lx : x.x.f0.length < 1099511627776) (ly : y.x.f0.length < 1099511627776) :
    Calls Try.prog 122 #[.agg (Sr.enc x).toArray, .agg (Sr.enc y).toArray] W fun e w' => e = .returned (.int .i64 (Sr.c x.x.f0 y.x.f0)) ∧ ∃ q os', w' = Sort.grow (W.drewN q) os' := by
  have HC := fun (W1 : World) (hb : Below W.heap.size W W1) => Aside0.mk (Sr.cmp x.A x.c x.x.f0 y.A y.c y.x.f0 W1 (hx.below hb).2.1 hx.1 (hy.below hb).2.1 hy.1 lx ly)
  clear hx hy lx ly
  obtain ⟨A, c, B, d, x⟩ := x
  obtain ⟨A', c', B', d', y⟩ := y
  dsimp only at HC
  show Calls Try.prog 122 #[.agg #[.slice A x.f0.length c, .slice B x.f1.length d], .agg #[.slice A' y.f0.length c', .slice B' y.f1.length d']] W _
  obtain ⟨r, hr⟩ : ∃ r, r = Sr.c x.f0 y.f0 := ⟨_, rfl⟩
  rw [← hr] at HC ⊢
  clear hr
  generalize x.f0.length = n0 at *
  generalize x.f1.length = n1 at *
  generalize y.f0.length = n2 at *
  generalize y.f1.length = n3 at *
  have HB := fun (o1 o2 : Obj) => (below_alloc (below_alloc (Below.refl W.heap.size W) o1) o2)
  have HC2 := fun (o1 o2 : Obj) => HC _ (HB o1 o2)
  clear HC HB
  go_enter Try.func122, Try.ntmps122
  go_wp2_with (go_at_call 123; (with_reducible refine (HC2 _ _).out.mono ?_); rintro e w' ⟨rfl, hbd⟩)
  go_ret
  exact ⟨rfl, (Go.Proofs.Ytcgocdhffcnleaa.XBd.bd_step (Go.Proofs.Ytcgocdhffcnleaa.XBd.bd_alloc (Go.Proofs.Ytcgocdhffcnleaa.XBd.bd_alloc (Go.Proofs.Ytcgocdhffcnleaa.XBd.BD.refl W) _) _) hbd).grow⟩
/-! ### the sort -/
abbrev Sr.V (Q : Sr.H → Prop) : Type := { p : Sr.H × Nat // Q p.1 ∧ p.1.x.f0.length < 1099511627776 }
def Sr.encV {w : Sr.H → Prop} (p : Sr.V w) : List Value := Sr.enc p.1.1
def Sr.cf {w : Sr.H → Prop} (p q : Sr.V w) : Int := Sr.c p.1.1.x.f0 q.1.1.x.f0
theorem Sr.swo {w : Sr.H → Prop} : SWO (ltOf (Sr.cf (w := w))) where
  irrefl := fun x => by
    unfold ltOf Sr.cf
    have := Sr.c_ord.irr x.1.1.x.f0
    simpa using this
  trans := fun x y z h1 h2 => by
    unfold ltOf Sr.cf at *
    have := Sr.c_ord.tr x.1.1.x.f0 y.1.1.x.f0 z.1.1.x.f0 (by simpa using h1) (by simpa using h2)
    simpa using this
  ntrans := fun x y z h1 h2 => by
    unfold ltOf Sr.cf at *
    simp only [decide_eq_false_iff_not] at *
    intro h3
    have o := Sr.c_ord
    have a1 : ¬ 0 < Sr.c y.1.1.x.f0 x.1.1.x.f0 := fun h => h1 ((o.anti _ _).2 h)
    have a2 : ¬ 0 < Sr.c z.1.1.x.f0 y.1.1.x.f0 := fun h => h2 ((o.anti _ _).2 h)
    by_cases e1 : Sr.c y.1.1.x.f0 x.1.1.x.f0 = 0
    · rw [← (o.zero _ _).1 e1] at h3
      exact h2 h3
    · by_cases e2 : Sr.c z.1.1.x.f0 y.1.1.x.f0 = 0
      · rw [(o.zero _ _).1 e2] at h3
        exact h1 h3
      · have := o.tr _ _ _ (show Sr.c z.1.1.x.f0 y.1.1.x.f0 < 0 by omega) (show Sr.c y.1.1.x.f0 x.1.1.x.f0 < 0 by omega)
        have := (o.anti _ _).1 h3
        omega
end
/-! ### slices.SortFunc of series -/
section
open Go.Sort Go.Shelf Go.Lib Go.Proofs.Ytcgocdhffcnleaa.XSr
set_option maxHeartbeats 4000000 in
set_option maxRecDepth 100000 in
theorem Sr.sortFunc {α : Type} [Inhabited α] (enc : α → List Value) (hk : ∀ x, (enc x).length = 2) (h1 : ∀ x, ∀ v ∈ enc x, v.oneCell' = true) (cf : α → α → Int) (hO : SWO (ltOf cf)) (g blk cap : Nat) (d : Array α) (w : World)
    (eg : ∀ args w, (callFunc g args).run Try.prog w = .ok (.enter g args) w) (hcmp : CmpLays Try.prog g #[] enc 2 cf blk 0 d.size w) (hH : HoldsK enc 2 w blk 0 d) (hblk : blk < w.heap.size) (hsz : d.size < 4611686018427387904) :
    Calls Try.prog 121 #[.slice (some ⟨blk, 0, none⟩) d.size cap, .func (.func g) #[] #[]] w fun e w' =>
      e = .returned (.tuple #[]) ∧ ∃ d' n os, PermIn 0 d.size d d' ∧ SortedIn (ltOf cf) 0 d.size d' ∧ w' = sortWorldK enc 2 w blk 0 n d' os := by
  have hlim : Lib.bitLen d.size < 4611686018427387904 := Nat.lt_of_le_of_lt (Lib.bitLen_le d.size 62 (by omega) (by omega)) (by omega)
  have hp := AnyQ.pdqsortCmpFunc_all (P := Try.prog) (ρ := Go.Proofs.Ytcgocdhffcnleaa.pdqS_ren) Go.Proofs.Ytcgocdhffcnleaa.pdqS 2 Try.isAgg68 Try.sizeOf68 enc cf g #[] hO blk 0 cap d w eg hcmp ⟨hk, h1, hH, hblk⟩ (d.size + 1) 0 d.size (Lib.bitLen d.size) d w (by omega) rfl (SWK.start hH) (Nat.zero_le _) (Nat.le_refl _) hsz hlim (Or.inl rfl)
  have hp' : Calls Try.prog 143 #[.slice (some ⟨blk, 0, none⟩) d.size cap, .int .i64 0, .int .i64 d.size, .int .i64 (Lib.bitLen d.size : Nat), .func (.func g) #[] #[]] w fun e w' => e = .returned (.tuple #[]) ∧ SWK enc 2 w blk 0 (pdq (ltOf cf) d 0 d.size (Lib.bitLen d.size) true true) w' := hp
  have hl : Calls Try.prog 141 #[.int .u64 (d.size : Int)] w fun e w' => e = .returned (.int .i64 (Lib.bitLen d.size : Nat)) ∧ w' = w := by
    have h := Any.bits_Len (SlLaysF0.n15.bits (P := Try.prog) (ρ := Go.Proofs.Ytcgocdhffcnleaa.bitsLen_ren) Go.Proofs.Ytcgocdhffcnleaa.bitsLen) (d.size : Int) w (by omega) (by omega)
    rwa [Int.toNat_natCast] at h
  have wr : IntKind.u64.wrap (d.size : Int) = d.size := by simp [IntKind.wrap, IntKind.bits, IntKind.signed]; omega
  have hsorts := pdq_sorts (ltOf cf) hO d 0 d.size (Lib.bitLen d.size) true true (Nat.zero_le _) (Nat.le_refl _) (Or.inl rfl)
  clear hH hcmp hk h1 hp
  go_enter Try.func121, Try.ntmps121
  go_wp2_with (first | (go_at_call 141; refine hl.mono ?_; rintro e w' ⟨rfl, rfl⟩) | (go_at_call 143; refine hp'.mono ?_; rintro e w' ⟨rfl, n, os, rfl⟩))
  go_end0
  exact ⟨rfl, _, n, os, hsorts.1, hsorts.2, rfl⟩
end
/-! ### the sort of headers -/
section
open Go.Sort Go.Shelf Go.Lib Go.Proofs.Ytcgocdhffcnleaa.XSr
/-- Its rows can be read whatever becomes of block g. -/
def Sr.St (g : Nat) (W : World) (h : Sr.H) : Prop := ∀ W', (∀ k, k ≠ g → k < W.heap.size → W'.heap[k]? = W.heap[k]?) → Sr.HV W' h
theorem Sr.sort (g cap : Nat) (hs : List Sr.H) (base : Nat) (W : World) (hne : hs ≠ []) (hl : hs.length ≤ 140737488355328) (hv : ∀ h ∈ hs, Sr.St g W h ∧ h.x.f0.length < 1099511627776)
    (ho : W.ownsRow base 68 2 (.slice (some ⟨g, 0, none⟩) hs.length cap) hs.length (hs.flatMap Sr.enc)) :
    Calls Try.prog 121 #[.slice (some ⟨g, 0, none⟩) hs.length cap, .func (.func 122) #[] #[]] W fun e w' => e = .returned (.tuple #[]) ∧ ∃ out : List Sr.H, out.Perm hs ∧
      (out.Pairwise fun x y => ¬ Sr.c y.x.f0 x.x.f0 < 0) ∧
      w'.ownsRow base 68 2 (.slice (some ⟨g, 0, none⟩) hs.length cap) hs.length (out.flatMap Sr.enc) ∧ W.grownBy w' (some g) := by
  obtain ⟨x0, r0, hl0⟩ := List.exists_cons_of_ne_nil hne
  letI : Inhabited (Sr.V (Sr.St g W)) := ⟨⟨(x0, 0), hv x0 (by rw [hl0]; exact List.mem_cons_self)⟩⟩
  have hm : ∀ p ∈ hs.zipIdx, p.1 ∈ hs := fun p hp => by
    obtain ⟨h, i⟩ := p
    exact List.fst_mem_of_mem_zipIdx hp
  let lA : List (Sr.V (Sr.St g W)) := hs.zipIdx.attach.map fun p => ⟨p.1, hv _ (hm p.1 p.2)⟩
  have hval : lA.map (·.1) = hs.zipIdx := by
    show (hs.zipIdx.attach.map _).map _ = _
    rw [List.map_map]
    exact List.attach_map_subtype_val _
  have hlA : lA.length = hs.length := by simp [lA]
  have hflat : ∀ q : List (Sr.V (Sr.St g W)), q.flatMap Sr.encV = ((q.map (·.1)).map (·.1)).flatMap Sr.enc := fun q => by
    induction q with
    | nil => rfl
    | cons x q ih => rw [List.flatMap_cons, List.map_cons, List.map_cons, List.flatMap_cons, ih]; rfl
  have hk : ∀ x : Sr.V (Sr.St g W), (Sr.encV x).length = 2 := fun _ => rfl
  have h1 : ∀ x : Sr.V (Sr.St g W), ∀ v ∈ Sr.encV x, v.oneCell' = true := fun x v hv => by
    have hv' : v ∈ Sr.enc x.1.1 := hv
    simp only [Sr.enc, List.mem_cons, List.not_mem_nil, or_false] at hv'
    rcases hv' with rfl | rfl <;> rfl
  have hoA : W.ownsRow base 68 2 (.slice (some ⟨g, 0, none⟩) hs.length cap) hs.length (lA.flatMap Sr.encV) := by
    rw [hflat, hval, List.zipIdx_map_fst]
    exact ho
  have hH : HoldsK Sr.encV 2 W g 0 lA.toArray := holdsK_of_own hk hoA hlA
  have hg : g < W.heap.size := own_lt ho g rfl
  have R : RowK Sr.encV 2 W g 0 lA.toArray := ⟨hk, h1, hH, hg⟩
  have eg : ∀ args w, (callFunc 122 args).run Try.prog w = .ok (.enter 122 args) w := enters_of Try.func122 (by kernel_rfl) rfl
  have hsz : lA.toArray.size = hs.length := by simpa using hlA
  have hC : CmpLays Try.prog 122 #[] (Sr.encV (w := Sr.St g W)) 2 Sr.cf g 0 lA.toArray.size W := fun m os dk _ x y => by
    have hb2 := grownBy_sortedK (enc := Sr.encV (w := Sr.St g W)) (k := 2) (w := W) (g := g) (n := m) (os := os) dk
    have hst : ∀ k, k ≠ g → k < W.heap.size → (sortWorldK (Sr.encV (w := Sr.St g W)) 2 W g 0 m dk os).heap[k]? = W.heap[k]? := fun k hk hlt => hb2.block k hlt (fun e => hk (by injection e))
    exact Sr.clos x.1.1 y.1.1 _ (x.2.1 _ hst) (y.2.1 _ hst) x.2.2 y.2.2
  have hcall := Sr.sortFunc Sr.encV hk h1 Sr.cf Sr.swo 122 g cap lA.toArray W eg hC hH hg (by omega)
  rw [hsz] at hcall
  refine hcall.mono ?_
  rintro e w' ⟨rfl, D, n, os, hp, hs2, rfl⟩
  have hD : D.size = hs.length := by rw [hp.1, hsz]
  have hperm : D.toList.Perm lA := by
    have h3 := hp.2.2
    rw [← hsz, show D.extract 0 lA.toArray.size = D from by rw [← hp.1]; simp] at h3
    simpa using h3
  obtain ⟨o1, o2⟩ := SWK.own (l' := D.toList) hk hoA (by rw [hperm.length_eq, hlA]) (by rw [Array.toArray_toList]; exact ⟨n, os, rfl⟩)
  rw [hflat] at o1
  refine ⟨rfl, (D.toList.map (·.1)).map (·.1), ?_, ?_, o1, o2⟩
  · have h4 := (hperm.map (·.1)).map (·.1)
    rw [hval, List.zipIdx_map_fst] at h4
    exact h4
  · rw [List.pairwise_map, List.pairwise_map, List.pairwise_iff_getElem]
    intro i j hi hj hij
    have hi' : i < D.size := by simpa using hi
    have hj' : j < D.size := by simpa using hj
    have h5 := hs2 i j (Nat.zero_le _) hij (by omega)
    rw [getElem!_pos D i hi', getElem!_pos D j hj'] at h5
    unfold ltOf Sr.cf at h5
    simpa using h5
/-- Its rows are the call's own whatever becomes of block g. -/
def Sr.SR (base g : Nat) (W : World) (h : Sr.H) : Prop := ∀ W', (∀ k, k ≠ g → k < W.heap.size → W'.heap[k]? = W.heap[k]?) → k53.R 53 W' base (fun k => k ≠ g) (.slice h.A h.x.f0.length h.c) h.x.f0 ∧ k44.R 44 W' base (fun k => k ≠ g) (.slice h.B h.x.f1.length h.d) h.x.f1
theorem Sr.lift2 {W : World} {base g cap : Nat} {xs : List S68} (h : k68.R 68 W base (fun _ => True) (.slice (some ⟨g, 0, none⟩) xs.length cap) xs) :
    ∃ hs : List Sr.H, hs.map (·.x) = xs ∧ (∀ h ∈ hs, Sr.St g W h) ∧ (∀ h ∈ hs, Sr.SR base g W h) ∧ W.ownsRow base 68 2 (.slice (some ⟨g, 0, none⟩) xs.length cap) xs.length (hs.flatMap Sr.enc) := by
  obtain ⟨_, inner, ho, hlen, hr⟩ := Kd.R_bound h
  have key : ∀ j : Fin xs.length, ∃ h : Sr.H, xs[j.val]? = some h.x ∧ (Sr.St g W h ∧ Sr.SR base g W h) ∧ (inner.drop (j.val * 2)).take 2 = Sr.enc h := by
    intro j
    obtain ⟨v0, v1, hc, g0, g1⟩ := k68_openM (hr j.val xs[j.val] (List.getElem?_eq_getElem j.isLt))
    obtain ⟨A0, c0, e0, hc0, _⟩ := Kd.R_reads g0
    obtain ⟨A1, c1, e1, hc1, _⟩ := Kd.R_reads g1
    have hb : ∀ W', (∀ k, k ≠ g → k < W.heap.size → W'.heap[k]? = W.heap[k]?) → k53.R 53 W' base (fun k => k ≠ g) (.slice A0 xs[j.val].f0.length c0) xs[j.val].f0 ∧ k44.R 44 W' base (fun k => k ≠ g) (.slice A1 xs[j.val].f1.length c1) xs[j.val].f1 := fun W' hW => by
      have g0' : k53.R 53 W' base _ v0 xs[j.val].f0 := Kd.R_move g0 (fun k hk => hW k (fun e => by subst e; exact hk.2 rfl) hk.1.2.2.1)
      have g1' : k44.R 44 W' base _ v1 xs[j.val].f1 := Kd.R_move g1 (fun k hk => hW k (fun e => by subst e; exact hk.2 rfl) hk.1.2.2.1)
      rw [e0] at g0'
      rw [e1] at g1'
      exact ⟨Kd.R_mono g0' (fun k hk e => by subst e; exact hk.2 rfl), Kd.R_mono g1' (fun k hk e => by subst e; exact hk.2 rfl)⟩
    refine ⟨⟨A0, c0, A1, c1, xs[j.val]⟩, List.getElem?_eq_getElem j.isLt, ⟨fun W' hW => ?_, hb⟩, by rw [e0, e1] at hc; exact hc⟩
    exact ⟨hc0, (Kd.R_reads' (hb W' hW).1).2.2, hc1, (Kd.R_reads' (hb W' hW).2).2.2⟩
  refine ⟨List.ofFn fun j => Classical.choose (key j), ?_, ?_, ?_, ?_⟩
  · apply List.ext_getElem
    · simp
    · intro i hi hi2
      have := (Classical.choose_spec (key ⟨i, hi2⟩)).1
      have e := this.symm.trans (List.getElem?_eq_getElem hi2)
      simp only [List.getElem_map, List.getElem_ofFn]
      exact Option.some.inj e
  · intro h hh
    obtain ⟨j, rfl⟩ := List.mem_ofFn.1 hh
    exact (Classical.choose_spec (key j)).2.1.1
  · intro h hh
    obtain ⟨j, rfl⟩ := List.mem_ofFn.1 hh
    exact (Classical.choose_spec (key j)).2.1.2
  · have hR : Sr.kH.R 68 W base (fun _ => True) (.slice (some ⟨g, 0, none⟩) xs.length cap) (List.ofFn fun j => Classical.choose (key j)) := by
      refine ⟨fun _ _ => trivial, inner, by rw [List.length_ofFn]; exact ho, by rw [List.length_ofFn]; exact hlen, fun j p hp => ?_⟩
      have hjn : j < xs.length := by
        have := (List.getElem?_eq_some_iff.1 hp).1
        simpa using this
      have e : p = Classical.choose (key ⟨j, hjn⟩) := by
        rw [List.getElem?_ofFn, dif_pos hjn] at hp
        exact (Option.some.inj hp).symm
      rw [e]
      exact (Classical.choose_spec (key ⟨j, hjn⟩)).2.2
    have := Sr.R_own hR
    rw [List.length_ofFn] at this
    exact this
end
end Go.Proofs.Ytcgocdhffcnleaa.PHead
