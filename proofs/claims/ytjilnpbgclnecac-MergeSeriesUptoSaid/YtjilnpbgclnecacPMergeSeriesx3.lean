/- Written by a program of this session out of the translation: for Go functions Lean functions of the same answers, and the proof that the calls come to these answers. -/
import Derived.Test.YtjilnpbgclnecacXHand
import Derived.Test.YtjilnpbgclnecacXLay
import Derived.Test.YtjilnpbgclnecacXSortRow
import Derived.Test.YtjilnpbgclnecacXMerge
import Derived.Test.YtjilnpbgclnecacXStableW
import Derived.Test.YtjilnpbgclnecacPMergeSeriesx0
namespace Go.Proofs.Ytjilnpbgclnecac.PMergeSeries
open Go.RowKit Go.Proofs.YtjilnpbgclnecacW.PrintWords Go.Proofs.YtjilnpbgclnecacW.PrintLast Go.Proofs.YtjilnpbgclnecacW.PrintMore Go.Proofs.Ytjilnpbgclnecac.XB
attribute [local go_sem] sg_u8 sg_u16 sg_u32 sg_u64 mx_u8 mx_u16 mx_u32 mx_u64
attribute [local go_sem] max2_int min2_int max_two min_two max_three min_three max_four min_four   -- for this text's walks alone
set_option linter.unusedVariables false
set_option linter.unusedSimpArgs false

/-! ### merge_sorted: function 98 -/
def merge_sorted.f (l0 : List S54) : Option (List S54) := if l0.length < 8796093022208 then some (Go.Proofs.Ytjilnpbgclnecac.XMg.mrg (fun x : S54 => x.f0) l0) else none
-- WALK
def merge_sorted.clone.f (l0 : List S54) : Option (List S54) := if l0.length < 140737488355328 / 16 then some l0 else none
set_option maxHeartbeats 8000000 in
set_option maxRecDepth 100000 in
theorem merge_sorted.clone.calls (A0 : Option Addr) (c0 : Nat) (l0 : List S54) (r : List S54) (w : World) (hr0 : Kd.C k54 w A0 l0.length l0) (hc0 : l0.length ≤ c0) (h : merge_sorted.clone.f l0 = some r) :
    Calls Try.prog 97 #[.slice A0 l0.length c0] w fun e w' => ∃ v0_ : Value, e = .returned (v0_) ∧ Kd.R k54 54 w' w.heap.size (fun _ => True) v0_ r ∧ Below w.heap.size w w' := by
  have hl : l0.length < 140737488355328 / 16 := by
    by_cases hl : l0.length < 140737488355328 / 16
    · exact hl
    · unfold merge_sorted.clone.f at h; rw [if_neg hl] at h; cases h
  obtain rfl : l0 = r := by unfold merge_sorted.clone.f at h; rw [if_pos hl] at h; exact Option.some.inj h
  clear h
  have HR := Aside0.mk hr0
  have HL := Aside0.mk hl
  clear hr0 hl
  have heq := fun (W : World) (n : Nat) => Lib.run_eql_slice_nil (P := Try.prog) W 60 54 A0 n c0 0 0 Try.underlying60
  cases A0 with
  | none =>
    have hnil : l0 = [] := by
      rcases Nat.eq_zero_or_pos l0.length with h0 | h0
      · exact List.eq_nil_of_length_eq_zero h0
      · obtain ⟨ad, e, _⟩ := HR.out.2.2 h0
        cases e
    subst hnil
    go_enter Try.func97, Try.ntmps97
    go_wp2
    go_ret
    exact ⟨_, rfl, Kd.R_nil _ _ _ _ _, Below.refl _ _⟩
  | some ad =>
    go_enter Try.func97, Try.ntmps97
    go_wp2_with (first
      | ((with_reducible refine gate_dst (N := 5) rfl ?_)
         refine Kd.R_lit k54 _ 54 ?hg (N := 5) ?hd (xs := ([] : List S54)) (inner := []) (ok := fun _ => True) (okp := fun _ => True) ?hr (Reps.none _ _) (fun _ hk => hk) trivial (Below.refl _ _) (Nat.le_refl _) (by simp) ?_
         (case hd => rfl)
         (case hg => rfl)
         (case hr => first | (go_simp; done) | (go_simp; rfl))
         intro v1 w1 ho1 hb1 hg1 hn1)
      | ((with_reducible refine gate_builtin (b := .append) (xs := #[.tmp 5, .tmp 6]) rfl ?_)
         at_builtin
         refine Kd.R_append_rows k54 (w0 := w) w.heap.size rfl (.tmp 5) (.tmp 6) 60 54 (.agg #[(.int .i64 0), (.int .i64 0)]) 16 rfl Try.underlying60 info54 rfl (by decide) (by omega) v1 [] l0 _ _ _ (fun _ => True) (fun _ => False) rfl rfl ho1 (Kd.C_below HR.out hb1) (fun _ _ h => h) (fun _ h => h.elim) (fun _ _ => trivial) hb1 hb1.size (by have := HL.out; simp only [List.length_nil]; omega) ?_
         intro v2 w2 ho2 hb2 hg2 hn2))
    go_ret
    exact ⟨_, rfl, ho2, hb2⟩
section
open Go.Sort Go.Shelf Go.Lib Go.Proofs.Ytjilnpbgclnecac.XSr Go.Proofs.Ytjilnpbgclnecac.XSt Go.Proofs.Ytjilnpbgclnecac.XSw Go.Proofs.Ytjilnpbgclnecac.XMg
instance : Inhabited S54 := ⟨z54⟩
def merge_sorted.enc (x : S54 × Nat) : List Value := [.int .i64 x.1.f0, .int .i64 x.1.f1]
def merge_sorted.cf (x y : S54 × Nat) : Int := if x.1.f0 < y.1.f0 then -1 else if x.1.f0 > y.1.f0 then 1 else 0
theorem merge_sorted.lt_iff (x y : S54 × Nat) : ltOf merge_sorted.cf x y = decide (x.1.f0 < y.1.f0) := by
  unfold ltOf merge_sorted.cf
  by_cases h1 : x.1.f0 < y.1.f0
  · simp [h1]
  · by_cases h2 : x.1.f0 > y.1.f0
    · simp [h1, h2]
    · simp [h1, h2]
theorem merge_sorted.swo : SWO (ltOf merge_sorted.cf) where
  irrefl := fun x => by rw [merge_sorted.lt_iff]; simp
  trans := fun x y z h1 h2 => by rw [merge_sorted.lt_iff] at *; simp only [decide_eq_true_eq] at *; omega
  ntrans := fun x y z h1 h2 => by rw [merge_sorted.lt_iff] at *; simp only [decide_eq_false_iff_not] at *; omega
set_option maxHeartbeats 4000000 in
theorem merge_sorted.clos (x y : S54 × Nat) (W : World) : Calls Try.prog 152 #[.agg (merge_sorted.enc x).toArray, .agg (merge_sorted.enc y).toArray] W fun e w' => e = .returned (.int .i64 (merge_sorted.cf x y)) ∧ ∃ q os', w' = grow (W.drewN q) os' := by
  obtain ⟨⟨a0, a1⟩, i⟩ := x
  obtain ⟨⟨b0, b1⟩, j⟩ := y
  show Calls Try.prog 152 #[.agg #[.int .i64 a0, .int .i64 a1], .agg #[.int .i64 b0, .int .i64 b1]] W _
  unfold merge_sorted.cf
  dsimp only
  by_cases h1 : a0 < b0
  · rw [if_pos h1]
    go_enter Try.func152, Try.ntmps152
    go_wp2
    go_ret
    exact ⟨rfl, 0, _, by rw [alloc_eq_grow, alloc_eq_grow, grow_grow]; rfl⟩
  · rw [if_neg h1]
    by_cases h2 : a0 > b0
    · rw [if_pos h2]
      go_enter Try.func152, Try.ntmps152
      go_wp2
      go_ret
      exact ⟨rfl, 0, _, by rw [alloc_eq_grow, alloc_eq_grow, grow_grow]; rfl⟩
    · rw [if_neg h2]
      go_enter Try.func152, Try.ntmps152
      go_wp2
      go_ret
      exact ⟨rfl, 0, _, by rw [alloc_eq_grow, alloc_eq_grow, grow_grow]; rfl⟩
theorem merge_sorted.lays (blk off size : Nat) (w : World) : CmpLays Try.prog 152 #[] merge_sorted.enc 2 merge_sorted.cf blk off size w := fun _ _ _ _ x y => merge_sorted.clos x y _
/-- The sort of a row of samples that bear tags. -/
theorem merge_sorted.sort (g cap : Nat) (d : Array (S54 × Nat)) (w : World) (hH : HoldsK merge_sorted.enc 2 w g 0 d) (hg : g < w.heap.size) (hs : d.size ≤ 140737488355328) :
    Calls Try.prog 151 #[.slice (some ⟨g, 0, none⟩) d.size cap, .func (.func 152) #[] #[]] w fun e w' => e = .returned (.tuple #[]) ∧ SWK merge_sorted.enc 2 w g 0 (stable (ltOf merge_sorted.cf) d) w' := by
  have hk : ∀ x : S54 × Nat, (merge_sorted.enc x).length = 2 := fun _ => rfl
  have h1 : ∀ x : S54 × Nat, ∀ v ∈ merge_sorted.enc x, v.oneCell' = true := fun x v hv => by
    simp only [merge_sorted.enc, List.mem_cons, List.not_mem_nil, or_false] at hv
    rcases hv with rfl | rfl <;> rfl
  have R : RowK merge_sorted.enc 2 w g 0 d := ⟨hk, h1, hH, hg⟩
  have eg : ∀ args w, (callFunc 152 args).run Try.prog w = .ok (.enter 152 args) w := enters_of Try.func152 (by kernel_rfl) rfl
  refine sortStable_w XSw.lays 2 Try.isAgg54 Try.sizeOf54 merge_sorted.enc merge_sorted.cf 152 #[] g 0 cap d w eg (merge_sorted.lays _ _ _ _) R (by omega) hs merge_sorted.swo ?_ d w rfl (SWK.start hH)
  intro a b d' w' hd' hS hab hb
  have := AnyQ.insertionSortCmpFunc_w (P := Try.prog) (ρ := Ytjilnpbgclnecac.insL_ren) Ytjilnpbgclnecac.insL 2 Try.isAgg54 Try.sizeOf54 merge_sorted.enc merge_sorted.cf 152 #[] g 0 cap a b d d' w w' eg (merge_sorted.lays _ _ _ _) R hd'.symm hS merge_sorted.swo hab (by omega) (by omega)
  rw [hd'] at this
  exact this
set_option maxHeartbeats 2000000 in
theorem merge_sorted.ins_nil (A : Option Addr) (cap : Nat) (fv : Value) (w : World) : Calls Try.prog 207 #[.slice A 0 cap, .int .i64 0, .int .i64 0, fv] w fun e w' => e = .returned (.tuple #[]) ∧ w' = w := by
  go_enter Try.func207, Try.ntmps207
  go_wp2
  refine wp_loop_rounds 1 ?_
  rw [rounds_succ]
  go_wp2
  go_end0
  exact ⟨rfl, rfl⟩
set_option maxHeartbeats 2000000 in
theorem merge_sorted.sort_nil (A : Option Addr) (cap : Nat) (fv : Value) (w : World) : Calls Try.prog 151 #[.slice A 0 cap, fv] w fun e w' => e = .returned (.tuple #[]) ∧ w' = w := by
  have h184 : Calls Try.prog 184 #[.slice A 0 cap, .int .i64 0, fv] w fun e w' => e = .returned (.tuple #[]) ∧ w' = w := by
    go_enter Try.func184, Try.ntmps184
    go_wp2
    refine wp_loop_rounds 1 ?_
    rw [rounds_succ]
    go_wp2_with (go_at_call 207; refine (merge_sorted.ins_nil _ _ _ _).mono ?_; rintro e w' ⟨rfl, rfl⟩)
    refine wp_loop_rounds 1 ?_
    rw [rounds_succ]
    go_wp2
    go_end0
    exact ⟨rfl, rfl⟩
  go_enter Try.func151, Try.ntmps151
  go_wp2_with (go_at_call 184; refine h184.mono ?_; rintro e w' ⟨rfl, rfl⟩)
  go_end0
  exact ⟨rfl, rfl⟩
/-- The loop: of a row (block g, below B) that rises, of one time the last one. -/
theorem merge_sorted.dd_drop {m : List S54} {i : Nat} (h : i < m.length) : XMg.dd (fun x : S54 => x.f0) (m.drop i) = (if h2 : i + 1 < m.length then (if m[i].f0 = m[i + 1].f0 then XMg.dd (fun x : S54 => x.f0) (m.drop (i + 1)) else m[i] :: XMg.dd (fun x : S54 => x.f0) (m.drop (i + 1))) else [m[i]]) := by
  rw [List.drop_eq_getElem_cons h]
  split
  · rename_i h2
    rw [List.drop_eq_getElem_cons h2]
    rfl
  · rw [List.drop_of_length_le (by omega)]
    rfl
theorem merge_sorted.st_spec (l0 : List S54) : (stable (ltOf merge_sorted.cf) (tagged l0).toArray).toList.length = l0.length ∧ XMg.dd (fun x : S54 => x.f0) ((stable (ltOf merge_sorted.cf) (tagged l0).toArray).toList.map (·.1)) = XMg.mrg (fun x : S54 => x.f0) l0 := by
  have ht : ∀ i, i < (tagged l0).toArray.size → ((tagged l0).toArray[i]!).2 = i := by
    unfold tagged
    intro i hi
    have hi' : i < (l0.zipIdx 0).length := by simpa using hi
    rw [at_idx _ i hi']
    simp
  obtain ⟨hp, hm⟩ := stable_spec (τ := fun x : S54 × Nat => x.2) merge_sorted.swo (tagged l0).toArray ht
  have hp' : (stable (ltOf merge_sorted.cf) (tagged l0).toArray).toList.Perm (tagged l0) := by simpa using hp
  refine ⟨by rw [hp'.length_eq]; simp [tagged], stable_map (key := fun x : S54 => x.f0) hp' (hm.imp ?_)⟩
  intro x y h
  rw [le_iff] at h
  rw [merge_sorted.lt_iff, merge_sorted.lt_iff] at h
  simp only [decide_eq_false_iff_not, decide_eq_true_eq] at h
  exact ⟨by omega, h.2⟩
def merge_sorted.encS (x : S54) : List Value := [.int .i64 x.f0, .int .i64 x.f1]
theorem merge_sorted.flat (l : List (S54 × Nat)) : l.flatMap merge_sorted.enc = (l.map (·.1)).flatMap merge_sorted.encS := by
  induction l with
  | nil => rfl
  | cons x l ih => rw [List.flatMap_cons, List.map_cons, List.flatMap_cons, ih]; rfl
theorem merge_sorted.sorts (g cap : Nat) (l0 : List S54) (base : Nat) (w : World) (ho : Kd.R k54 54 w base (fun _ => True) (.slice (some ⟨g, 0, none⟩) l0.length cap) l0) (hs : l0.length ≤ 140737488355328) :
    Calls Try.prog 151 #[.slice (some ⟨g, 0, none⟩) l0.length cap, .func (.func 152) #[] #[]] w fun e w' => e = .returned (.tuple #[]) ∧ ∃ m : List S54, m.length = l0.length ∧ XMg.dd (fun x : S54 => x.f0) m = XMg.mrg (fun x : S54 => x.f0) l0 ∧ Kd.R k54 54 w' base (fun _ => True) (.slice (some ⟨g, 0, none⟩) l0.length cap) m ∧ w.grownBy w' (some g) := by
  have own : w.ownsRow base 54 2 (.slice (some ⟨g, 0, none⟩) l0.length cap) l0.length (l0.flatMap merge_sorted.encS) := R_cells (enc := merge_sorted.encS) (fun h => k54_openM h) ho
  have hk : ∀ x : S54 × Nat, (merge_sorted.enc x).length = 2 := fun _ => rfl
  have ht : ((tagged l0).map (·.1)) = l0 := tagged_fst l0
  have htl : (tagged l0).length = l0.length := by simp [tagged]
  have own2 : w.ownsRow base 54 2 (.slice (some ⟨g, 0, none⟩) l0.length cap) l0.length ((tagged l0).flatMap merge_sorted.enc) := by rw [merge_sorted.flat, ht]; exact own
  have hsz : (tagged l0).toArray.size = l0.length := by simpa using htl
  have hg : g < w.heap.size := Kd.R_lt ho g rfl
  have := merge_sorted.sort g cap (tagged l0).toArray w (holdsK_of_own hk own2 htl) hg (by omega)
  rw [hsz] at this
  refine this.mono ?_
  rintro e w' ⟨rfl, hW⟩
  obtain ⟨h1, h2⟩ := merge_sorted.st_spec l0
  obtain ⟨st, hst⟩ : ∃ st, st = stable (ltOf merge_sorted.cf) (tagged l0).toArray := ⟨_, rfl⟩
  rw [← hst] at hW h1 h2
  obtain ⟨o1, o2⟩ := SWK.own (l' := st.toList) hk own2 h1 (by rw [Array.toArray_toList]; exact hW)
  rw [merge_sorted.flat] at o1
  refine ⟨rfl, st.toList.map (·.1), by simpa using h1, h2, ?_, o2⟩
  have hl : (st.toList.map (·.1)).length = l0.length := by simpa using h1
  rw [← hl] at o1 ⊢
  exact cells_R (d := k54) (enc := merge_sorted.encS) (fun _ => rfl) (fun w b ok x => k54_mkM w b ok x) o1 (fun _ _ => trivial)
set_option maxHeartbeats 8000000 in
set_option maxRecDepth 100000 in
theorem merge_sorted.calls (A0 : Option Addr) (c0 : Nat) (l0 : List S54) (r : List S54) (w : World) (hr0 : Kd.C k54 w A0 l0.length l0) (hc0 : l0.length ≤ c0) (h : merge_sorted.f l0 = some r) :
    Calls Try.prog 98 #[.slice A0 l0.length c0] w fun e w' => ∃ v0_ : Value, e = .returned (v0_) ∧ Kd.R k54 54 w' w.heap.size (fun _ => True) v0_ r ∧ Below w.heap.size w w' := by
  unfold merge_sorted.f at h
  by_cases hlen : l0.length < 8796093022208
  case neg => rw [if_neg hlen] at h; cases h
  rw [if_pos hlen] at h
  injection h with h
  have HCL := Aside0.mk (merge_sorted.clone.calls A0 c0 l0 l0 w hr0 hc0 (by unfold merge_sorted.clone.f; rw [if_pos (by omega)]))
  have HR := Aside0.mk h
  have HLN := Aside0.mk hlen
  clear hr0 hc0 h hlen
  go_enter Try.func98, Try.ntmps98
  go_upto_region 2 with (go_at_call 97; (with_reducible refine HCL.out.mono ?_); rintro e w1 ⟨v1, rfl, ho1, hb1⟩; have HO1 := Aside0.mk ho1; have HB1 := Aside0.mk hb1; clear ho1 hb1)
  go_cut [] (fun wx => ∃ m : List S54, m.length = l0.length ∧ Aside0 (XMg.dd (fun x : S54 => x.f0) m = r) ∧ Aside0 (Kd.R k54 54 wx w.heap.size (fun _ => True) v1 m) ∧ Aside0 (Below w.heap.size w wx))
  case first =>
    by_cases h0 : l0 = []
    · subst h0
      obtain ⟨A, c, hv⟩ := Kd.R_slice HO1.out
      subst hv
      go_wp2_with (go_at_call 151; (with_reducible refine (merge_sorted.sort_nil _ _ _ _).mono ?_); rintro e w' ⟨rfl, rfl⟩)
      go_meet
      case rel => exact ⟨[], rfl, ⟨HR.out⟩, HO1, HB1⟩
    · have hpos : 0 < l0.length := List.length_pos_iff.mpr h0
      obtain ⟨g, cap, hv, hbg, hlt, _⟩ := Kd.R_form HO1.out hpos
      subst hv
      have HS := Aside0.mk (merge_sorted.sorts g cap l0 w.heap.size w1 HO1.out (by have := HLN.out; omega))
      have HBG := Aside0.mk hbg
      clear hbg hlt hpos
      go_wp2_with (go_at_call 151; (with_reducible refine HS.out.mono ?_); rintro e w2 ⟨rfl, m, h1, h2, h3, h4⟩)
      go_meet
      case rel => exact ⟨m, h1, ⟨by rw [h2]; exact HR.out⟩, ⟨h3⟩, ⟨pw_below_grown HB1.out (some g) HB1.out.size h4 (fun k hk => by injection hk with hk; subst hk; exact HBG.out)⟩⟩
  case rest =>
    obtain ⟨m, hml, HD, HM, HB⟩ := hcut
    clear HO1 HB1 HCL HR
    obtain ⟨A, c, hv, hmc, hC⟩ := Kd.R_reads HM.out
    subst hv
    have HC := Aside0.mk hC
    have HLM := Aside0.mk (show m.length < 8796093022208 by have := HLN.out; omega)
    have hml0 : m.length ≤ 9223372036854775806 := by have := HLM.out; omega
    clear hC hml HLN HM hmc
    go_wp2
    go_loopg [3, 12] m.length (fun kx v3 v12 wr => ∃ (i : Nat) (out : List S54), v12 = .int .i64 i ∧ i ≤ m.length ∧ m.length - i ≤ kx ∧ out.length ≤ i ∧ Aside0 (out ++ XMg.dd (fun x : S54 => x.f0) (m.drop i) = XMg.dd (fun x : S54 => x.f0) m) ∧ Aside0 (Kd.R k54 54 wr wc.heap.size (fun _ => True) v3 out) ∧ Aside0 (Below wc.heap.size wc wr))
    case atStart => exact ⟨0, [], rfl, Nat.zero_le _, Nat.le_refl _, Nat.le_refl _, ⟨rfl⟩, ⟨Kd.R_nil _ _ _ _ _⟩, ⟨Below.refl _ _⟩⟩
    case round =>
      obtain ⟨i, out, rfl, hi, hkx, hol, HE, HO, HBR⟩ := hrel
      by_cases hlt : i < m.length
      · have hltz : (i : Int) < (m.length : Int) := by omega
        have hi0 : (0 : Int) ≤ (i : Int) := by omega
        obtain ⟨ad, hA, hx0, hx1⟩ := at_T54 (Kd.C_below HC.out HBR.out) (i : Int) (by omega) hltz
        subst hA
        rw [Int.toNat_natCast] at hx0 hx1
        have hrd : rd_T54 m (i : Int) = m[i] := by unfold rd_T54; simp [hlt]
        rw [hrd] at hx0 hx1
        obtain ⟨x0, hx0v⟩ : ∃ x, x = m[i].f0 := ⟨_, rfl⟩
        obtain ⟨x1, hx1v⟩ : ∃ x, x = m[i].f1 := ⟨_, rfl⟩
        rw [← hx0v] at hx0
        rw [← hx1v] at hx1
        have HX := Aside0.mk (show m[i] = ⟨x0, x1⟩ by rw [hx0v, hx1v])
        have HDD := Aside0.mk (merge_sorted.dd_drop hlt)
        clear hx0v hx1v hrd
        go_upto_region 7 with fail
        refine Go.Proofs.Ytjilnpbgclnecac.XH.cwp_world ?_
        intro W hW
        have hbW : Below wr.heap.size wr W := by rw [hW]; exact below_alloc (Below.refl _ _) _
        have hBK : W.heap[wr.heap.size]? = some (.cells #[.int .i64 x0, .int .i64 x1] 54 (0, 0)) := by rw [hW]; exact blk_new _ _
        obtain ⟨g5, hg5⟩ : ∃ g, g = wr.heap.size := ⟨_, rfl⟩
        rw [← hg5] at hBK ⊢
        have HO2 := Aside0.mk (Kd.R_below HO.out hbW)
        have HB2 := Aside0.mk (below_step HBR.out hbW)
        have HBK := Aside0.mk hBK
        have hb0 : W.cell? ⟨g5, 0, none⟩ = some (.int .i64 x0) := (blk_cell hBK 0).trans rfl
        have hb1 : W.cell? ⟨g5, 1, none⟩ = some (.int .i64 x1) := (blk_cell hBK 1).trans rfl
        clear hW hbW hBK hg5 hx0 hx1 HO HBR
        have hw1 : IntKind.i64.wrap ((i : Int) + 1) = (i : Int) + 1 := by rw [IntKind.wrap_i64]; omega
        have ht1 : ((i : Int) + 1).toNat = i + 1 := by omega
        have hp1 : (0 : Int) ≤ (i : Int) + 1 := by omega
        by_cases h2 : i + 1 < m.length
        · have h2z : (i : Int) + 1 < (m.length : Int) := by omega
          have h2b : ((i : Int) + 1 == (m.length : Int)) = false := beq_eq_false_iff_ne.mpr (by omega)
          obtain ⟨ad2, hA2, hy0, hy1⟩ := at_T54 (Kd.C_below HC.out HB2.out) ((i : Int) + 1) (by omega) h2z
          injection hA2 with hA2
          subst hA2
          rw [ht1] at hy0 hy1
          have hrd : rd_T54 m ((i : Int) + 1) = m[i + 1] := by unfold rd_T54; rw [ht1]; simp [h2]
          rw [hrd] at hy0 hy1
          clear hrd hy1
          obtain ⟨y0, hy0v⟩ : ∃ y, y = m[i + 1].f0 := ⟨_, rfl⟩
          rw [← hy0v] at hy0
          have HYV := Aside0.mk hy0v
          clear hy0v
          by_cases h3 : y0 = x0
          · replace h3 := h3.symm
            subst h3
            have h3b : (x0 != x0) = false := bne_self_eq_false x0
            go_quiet (fail)
            have HO3 := Aside0.mk (Kd.R_drewN HO2.out nq)
            have HB3 := Aside0.mk (pw_below_drewN HB2.out nq)
            have HBK3 := Aside0.mk (show (W.drewN nq).heap[g5]? = some (.cells #[.int .i64 x0, .int .i64 x1] 54 (0, 0)) from HBK.out)
            clear HO2 HB2 HBK hb0 hb1 hy0
            generalize W.drewN nq = W2 at HO3 HB3 HBK3 ⊢
            have hb0 : W2.cell? ⟨g5, 0, none⟩ = some (.int .i64 x0) := (blk_cell HBK3.out 0).trans rfl
            have hb1 : W2.cell? ⟨g5, 1, none⟩ = some (.int .i64 x1) := (blk_cell HBK3.out 1).trans rfl
            go_wp2
            go_roundg (m.length - (i + 1))
            case measure => omega
            case rel => exact ⟨i + 1, out, by go_num, hlt, Nat.le_refl _, by omega, ⟨by rw [← HE.out, HDD.out, dif_pos h2, if_pos (by rw [HX.out, ← HYV.out])]⟩, HO3, HB3⟩
          · have h3b : (y0 != x0) = true := bne_iff_ne.mpr h3
            go_quiet (fail)
            have HO3 := Aside0.mk (Kd.R_drewN HO2.out nq)
            have HB3 := Aside0.mk (pw_below_drewN HB2.out nq)
            have HBK3 := Aside0.mk (show (W.drewN nq).heap[g5]? = some (.cells #[.int .i64 x0, .int .i64 x1] 54 (0, 0)) from HBK.out)
            clear HO2 HB2 HBK hb0 hb1 hy0
            generalize W.drewN nq = W2 at HO3 HB3 HBK3 ⊢
            have hb0 : W2.cell? ⟨g5, 0, none⟩ = some (.int .i64 x0) := (blk_cell HBK3.out 0).trans rfl
            have hb1 : W2.cell? ⟨g5, 1, none⟩ = some (.int .i64 x1) := (blk_cell HBK3.out 1).trans rfl
            go_wp2_with (first
              | ((with_reducible refine gate_builtin (b := .append) (xs := #[.tmp 33, .tmp 35]) rfl ?_); at_builtin; refine Kd.R_append k54 (w0 := wc) wc.heap.size rfl (.tmp 33) (.tmp 35) 60 54 (.agg #[(.int .i64 0), (.int .i64 0)]) 16 rfl Try.underlying60 info54 rfl (by decide) (by omega) u3 out ⟨x0, x1⟩ [.int .i64 x0, .int .i64 x1] (fun _ => True) (fun _ => False) rfl (by first | (go_simp; done) | (go_simp; rfl)) (k54_mkM _ _ _ _) (fun _ hk => hk.elim) (fun _ _ => trivial) HO3.out HB3.out HB3.out.size (by have := HLM.out; omega) ?_; intro v7 w7 ho7 hb7 hg7 _; have HO4 := Aside0.mk ho7; have HB4 := Aside0.mk hb7; clear ho7 hb7 hg7 HO3 HB3 HBK3 hb0 hb1))
            go_roundg (m.length - (i + 1))
            case measure => omega
            case rel => exact ⟨i + 1, out ++ [⟨x0, x1⟩], by go_num, hlt, Nat.le_refl _, by simp; omega, ⟨by rw [← HE.out, HDD.out, dif_pos h2, if_neg (by rw [HX.out, ← HYV.out]; exact fun e => h3 e.symm), HX.out, List.append_assoc]; rfl⟩, HO4, HB4⟩
        · have h2b : ((i : Int) + 1 == (m.length : Int)) = true := beq_iff_eq.mpr (by omega)
          go_quiet (fail)
          have HO3 := Aside0.mk (Kd.R_drewN HO2.out nq)
          have HB3 := Aside0.mk (pw_below_drewN HB2.out nq)
          have HBK3 := Aside0.mk (show (W.drewN nq).heap[g5]? = some (.cells #[.int .i64 x0, .int .i64 x1] 54 (0, 0)) from HBK.out)
          clear HO2 HB2 HBK hb0 hb1
          generalize W.drewN nq = W2 at HO3 HB3 HBK3 ⊢
          have hb0 : W2.cell? ⟨g5, 0, none⟩ = some (.int .i64 x0) := (blk_cell HBK3.out 0).trans rfl
          have hb1 : W2.cell? ⟨g5, 1, none⟩ = some (.int .i64 x1) := (blk_cell HBK3.out 1).trans rfl
          go_wp2_with (first
            | ((with_reducible refine gate_builtin (b := .append) (xs := #[.tmp 33, .tmp 35]) rfl ?_); at_builtin; refine Kd.R_append k54 (w0 := wc) wc.heap.size rfl (.tmp 33) (.tmp 35) 60 54 (.agg #[(.int .i64 0), (.int .i64 0)]) 16 rfl Try.underlying60 info54 rfl (by decide) (by omega) u3 out ⟨x0, x1⟩ [.int .i64 x0, .int .i64 x1] (fun _ => True) (fun _ => False) rfl (by first | (go_simp; done) | (go_simp; rfl)) (k54_mkM _ _ _ _) (fun _ hk => hk.elim) (fun _ _ => trivial) HO3.out HB3.out HB3.out.size (by have := HLM.out; omega) ?_; intro v7 w7 ho7 hb7 hg7 _; have HO4 := Aside0.mk ho7; have HB4 := Aside0.mk hb7; clear ho7 hb7 hg7 HO3 HB3 HBK3 hb0 hb1))
          go_roundg (m.length - (i + 1))
          case measure => omega
          case rel => exact ⟨i + 1, out ++ [⟨x0, x1⟩], by go_num, hlt, Nat.le_refl _, by simp; omega, ⟨by rw [← HE.out, HDD.out, dif_neg h2, HX.out, List.drop_of_length_le (by omega)]; simp [XMg.dd]⟩, HO4, HB4⟩
      · have hltz : ¬ (i : Int) < (m.length : Int) := by omega
        go_wp2
        go_ret
        refine ⟨_, rfl, Kd.R_lower (base := wc.heap.size) ?_ HB.out.size, below_step HB.out HBR.out⟩
        have e : out = r := by rw [← HD.out, ← HE.out, List.drop_of_length_le (by omega)]; simp [XMg.dd]
        rw [← e]
        exact HO.out
end


end Go.Proofs.Ytjilnpbgclnecac.PMergeSeries
