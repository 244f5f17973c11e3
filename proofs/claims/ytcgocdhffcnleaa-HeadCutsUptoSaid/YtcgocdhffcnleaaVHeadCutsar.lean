/- Parts of the proof of the law's row, put together: see the theorems' own lines. -/
import Derived.Test.YtcgocdhffcnleaaVHeadCutsaq
import Derived.Test.YtcgocdhffcnleaaVHeadCutsag
import Derived.Outline
/- A part of the proofs about the head: see the theorems' own lines. -/
namespace Go.Proofs.Ytcgocdhffcnleaa.PHead
open Go Go.RowKit Go.Proofs.YtcgocdhffcnleaaW.PrintWords Go.Proofs.YtcgocdhffcnleaaW.PrintLast Go.Proofs.YtcgocdhffcnleaaW.PrintMore Go.Proofs.Ytcgocdhffcnleaa.XB Go.Proofs.Ytcgocdhffcnleaa.PHeadPlays
set_option linter.unusedVariables false
set_option linter.unusedSimpArgs false
/-! ### labels.Make -/
section
open Go.Proofs.Ytcgocdhffcnleaa.XH
def labels_Make.Post (l : List S53) (w : World) (e : Ending) (w' : World) : Prop :=
  Below w.heap.size w w' ∧ match Hl.mk l with
    | none => e = .returned (.tuple #[.slice none 0 0, .int .i64 20])
    | some m => ∃ v, e = .returned (.tuple #[v, .int .i64 0]) ∧ k53.R 53 w' w.heap.size (fun _ => True) v m
theorem labels_Make.bad {l : List S53} {w w' : World} (hb : Below w.heap.size w w') (h : Hl.mk l = Option.none) : labels_Make.Post l w (.returned (.tuple #[.slice Option.none 0 0, .int .i64 20])) w' := by
  unfold labels_Make.Post
  rw [h]
  exact ⟨hb, rfl⟩
theorem labels_Make.good {l m : List S53} {w w' : World} {v : Value} (hb : Below w.heap.size w w') (h : Hl.mk l = some m) (hr : k53.R 53 w' w.heap.size (fun _ => True) v m) : labels_Make.Post l w (.returned (.tuple #[v, .int .i64 0])) w' := by
  unfold labels_Make.Post
  rw [h]
  exact ⟨hb, v, rfl, hr⟩
theorem str_ne {s : ByteArray} (h : ¬ s.size = 0) : (s.toList == []) = false ∧ s.toList.isEmpty = false := by
  have h1 : (s.toList == []) = false := by
    rw [beq_eq_false_iff_ne]
    intro h2
    rw [Go.ByteArray.toList_eq] at h2
    exact h (by have := congrArg List.length h2; rw [Array.length_toList] at this; exact this)
  refine ⟨h1, ?_⟩
  cases h2 : s.toList with
  | nil => rw [h2] at h1; cases h1
  | cons => rfl
theorem str_empty {s : ByteArray} (h : s.size = 0) : s = ⟨#[]⟩ := by
  cases s with
  | mk d =>
    have : d.size = 0 := h
    rw [Array.eq_empty_of_size_eq_zero this]
theorem R53_cells {W : World} {base g n cap : Nat} {xs : List S53} (h : k53.R 53 W base (fun _ => True) (.slice (some ⟨g, 0, none⟩) n cap) xs) : n = xs.length ∧ base ≤ g ∧ ∃ cur, W.heap[g]? = some (.cells cur 53 (0, 0)) ∧ xs.length * 2 ≤ cur.size ∧ ∀ (j : Nat) (x : S53), xs[j]? = some x → W.cell? ⟨g, j * 2, none⟩ = some (.string x.f0) ∧ W.cell? ⟨g, j * 2 + 1, none⟩ = some (.string x.f1) := by
  obtain ⟨hn, hc, hC⟩ := Kd.R_reads' h
  obtain ⟨inner, ho⟩ := Kd.R_own h
  refine ⟨hn, own_base ho g rfl, ?_⟩
  rcases ho.2 with ⟨hv, hz⟩ | ⟨g', cap', cur, hv, hb, hh, h1, h2, h3, h4⟩
  · cases hv
  injection hv with hv1 _ hv3
  injection hv1 with hv1
  injection hv1 with hv1
  subst hv1 hv3
  refine ⟨cur, hh, by rw [h3]; exact Nat.mul_le_mul_right _ h1, fun j x hj => ?_⟩
  have hjl : j < xs.length := (List.getElem?_eq_some_iff.1 hj).1
  obtain ⟨ad, hA, x0, x1⟩ := at_T53 hC (j : Int) (by omega) (by omega)
  injection hA with hA
  subst hA
  have hrd : rd_T53 xs (j : Int) = x := by unfold rd_T53; rw [Int.toNat_natCast, List.getD_eq_getElem?_getD, hj]; rfl
  rw [hrd, Int.toNat_natCast, add_plain] at x0 x1
  exact ⟨x0, x1⟩
theorem R53_set {W : World} {base g n cap : Nat} {xs : List S53} (h : k53.R 53 W base (fun _ => True) (.slice (some ⟨g, 0, none⟩) n cap) xs) (j : Nat) (hj : j < xs.length) (y : S53) :
    k53.R 53 ((W.setCell ⟨g, j * 2, none⟩ (.string y.f0)).setCell ⟨g, j * 2 + 1, none⟩ (.string y.f1)) base (fun _ => True) (.slice (some ⟨g, 0, none⟩) n cap) (xs.set j y) := by
  obtain ⟨hn, hb, cur, hh, hs, hc⟩ := R53_cells h
  obtain ⟨x0, x1⟩ := hc j xs[j] (List.getElem?_eq_getElem hj)
  have hcc : ∀ q u, [Value.string xs[j].f0, Value.string xs[j].f1][q]? = some u → W.cell? ⟨g, (j : Int).toNat * k53.sz + q, none⟩ = some u := by
    intro q u hu
    rw [Int.toNat_natCast]
    match q with
    | 0 => rw [← hu]; exact x0
    | 1 => rw [← hu]; exact x1
    | q + 2 => simp at hu
  have := Kd.R_seg (okp := fun _ => False) (j := 0) (seg := [.string y.f0, .string y.f1]) (x' := y) h (j : Int) (by omega) (by omega) (c := [.string xs[j].f0, .string xs[j].f1]) rfl hcc (Nat.le_refl 2) (k53_mkM _ _ _ y) (fun _ h => h.elim)
  rw [Int.toNat_natCast] at this
  exact this.1
theorem two_of {W : World} {g t j : Nat} {cur : Array Value} (h : W.heap[g]? = some (.cells cur t (0, 0))) (hj : j + 1 < cur.size) (u : Value) :
    ∃ y0 y1, W.cell? ⟨g, j, none⟩ = some y0 ∧ W.frozen? ⟨g, j, none⟩ = false ∧ (W.setCell ⟨g, j, none⟩ u).cell? ⟨g, j + 1, none⟩ = some y1 ∧ (W.setCell ⟨g, j, none⟩ u).frozen? ⟨g, j + 1, none⟩ = false := by
  refine ⟨cur[j], cur[j + 1], ?_, blk_frozen h _, ?_, blk_frozen (blk_set h j u) _⟩
  · rw [blk_cell h, Array.getElem?_eq_getElem (by omega)]
  · rw [blk_cell (blk_set h j u), Array.getElem?_setIfInBounds_ne (by omega), Array.getElem?_eq_getElem hj]
theorem list_set2 {α : Type} (p q : List α) (x y : α) : ((p ++ y :: x :: q).set p.length x).set (p.length + 1) y = p ++ x :: y :: q := by
  induction p with
  | nil => rfl
  | cons a p ih => simp only [List.cons_append, List.length_cons, List.set_cons_succ, ih]
theorem cmp_f (a b : ByteArray) : cmp_Compare_string.f a b = some (XLab.sc a.toList b.toList) := by
  unfold cmp_Compare_string.f cmp_isNaN_string.f XLab.sc
  simp only [Option.bind_some, bne_self_eq_false]
  rw [if_neg (by decide), if_neg (by decide)]
  split
  · rfl
  · split <;> rfl
theorem cmp_q (a b : ByteArray) (r : Int) (h : XLab.sc a.toList b.toList = r) (W : World) : Calls Try.prog 119 #[.string a, .string b] W fun e w' => e = .returned (.int .i64 r) ∧ ∃ n, w' = W.drewN n :=
  (cmp_Compare_string.calls a b r W (by rw [cmp_f, h])).mono fun e w' h => ⟨h.1, h.2.out⟩
theorem sc_vals (a b : List UInt8) : XLab.sc a b = -1 ∨ XLab.sc a b = 0 ∨ XLab.sc a b = 1 := by
  unfold XLab.sc
  split
  · exact .inl rfl
  · split
    · exact .inr (.inr rfl)
    · exact .inr (.inl rfl)
set_option maxHeartbeats 8000000 in
set_option maxRecDepth 100000 in
theorem labels_Make.calls (A0 : Option Addr) (c0 : Nat) (l : List S53) (w : World) (hC : Kd.C k53 w A0 l.length l) (hc : l.length ≤ c0) :
    Calls Try.prog 101 #[.slice A0 l.length c0] w fun e w' => labels_Make.Post l w e w' := by
  by_cases h0 : l.length = 0
  · have hmk := Aside0.mk (show Hl.mk l = none from by unfold Hl.mk; rw [if_pos (.inl h0)])
    have h0z : (l.length : Int) = 0 := by omega
    go_enter Try.func101, Try.ntmps101
    go_wp2
    go_ret2
    exact labels_Make.bad (Below.refl _ _) hmk.out
  · by_cases h16 : 16 < l.length
    · have hmk := Aside0.mk (show Hl.mk l = none from by unfold Hl.mk; rw [if_pos (.inr h16)])
      have h1 : ¬ (l.length : Int) = 0 := by omega
      have h2 : ((l.length : Int) == 0) = false := by rw [beq_eq_false_iff_ne]; omega
      have h3 : (l.length : Int) > 16 := by omega
      have h4 : (16 : Int) < (l.length : Int) := by omega
      go_enter Try.func101, Try.ntmps101
      go_wp2
      go_ret2
      exact labels_Make.bad (Below.refl _ _) hmk.out
    · have HMK := Aside0.mk (show Hl.mk l = Hl.mkf l [] from by unfold Hl.mk; rw [if_neg (by omega)])
      have h1 : ¬ (l.length : Int) = 0 := by omega
      have h2 : ((l.length : Int) == 0) = false := by rw [beq_eq_false_iff_ne]; omega
      have h3 : ¬ (l.length : Int) > 16 := by omega
      have h4 : ¬ (16 : Int) < (l.length : Int) := by omega
      have h5 : (0 : Int) ≤ (l.length : Int) := by omega
      have HC := Aside0.mk hC
      have HCC := Aside0.mk hc
      obtain ⟨i0, hi, hz0, hz1, hz2⟩ := info_parts info53
      have hmake := fun W : World => run_make (P := Try.prog) W 38 53 i0 _ Try.underlying38 hi hz0 .i64 .i64 0 l.length (Int.le_refl _) h5 (by rw [hz2]; omega) (by omega)
      simp only [Int.toNat_zero, Int.toNat_natCast] at hmake
      have HSZ := Aside0.mk hz1
      clear hC hc h0 hi hz0 hz1 hz2
      go_enter Try.func101, Try.ntmps101
      go_wp2
      obtain ⟨W0, hW0⟩ : ∃ W0, W0 = w.alloc (.cells (madeCells #[.string ⟨#[]⟩, .string ⟨#[]⟩] (l.length * i0.size)) 53) := ⟨_, rfl⟩
      have HR0 := Aside0.mk (show k53.R 53 W0 w.heap.size (fun _ => True) (.slice (some ⟨w.heap.size, 0, none⟩) 0 l.length) [] from by
        rw [hW0]
        refine ⟨fun _ _ => trivial, [], ?_, Reps.none _ _⟩
        exact World.ownsRow_made w _ l.length (Nat.le_refl _) (by unfold maxLen; omega) (by rw [size_madeCells, HSZ.out]; rfl))
      have HB0 := Aside0.mk (show Below w.heap.size w W0 from by rw [hW0]; exact below_alloc (Below.refl _ _) _)
      go_loopg [4, 22] l.length (fun kx v4 v22 wr => ∃ (k : Nat) (out : List S53), v22 = .int .i64 k ∧ k ≤ l.length ∧ l.length - k ≤ kx ∧ Aside0 (k53.R 53 wr w.heap.size (fun _ => True) v4 out) ∧ Aside0 (Hl.mkf (l.drop k) out = Hl.mk l) ∧ Aside0 (Hl.srt out) ∧ Aside0 (out.length = k) ∧ Aside0 (Below w.heap.size w wr))
      case atStart => rw [← hW0]; exact ⟨0, [], rfl, Nat.zero_le _, Nat.le_refl _, HR0, ⟨HMK.out.symm⟩, ⟨List.Pairwise.nil⟩, ⟨rfl⟩, HB0⟩
      case round =>
        clear HR0 HB0 hW0 hmake
        obtain ⟨k, out, rfl, hk, hkx, HR, HF, HS, HL, HB⟩ := hrel
        by_cases hlt : k < l.length
        · have hltz : (k : Int) < (l.length : Int) := by omega
          have hk0 : (0 : Int) ≤ (k : Int) := by omega
          obtain ⟨ad, hA, x0, x1⟩ := at_T53 HC.out (k : Int) hk0 hltz
          subst hA
          have hrd : rd_T53 l (k : Int) = l[k] := by unfold rd_T53; simp [hlt]
          obtain ⟨x, hx⟩ : ∃ x, x = l[k] := ⟨_, rfl⟩
          rw [hrd, ← hx, Int.toNat_natCast] at x0 x1
          have y0 := pw_cell_below HB.out x0
          have y1 := pw_cell_below HB.out x1
          have HF1 := Aside0.mk (show (if Hl.okL x = true then (Hl.ins x out).bind (Hl.mkf (l.drop (k + 1))) else none) = Hl.mk l from by
            rw [← HF.out, List.drop_eq_getElem_cons hlt, ← hx]; rfl)
          clear hrd hx x0 x1 HF
          go_wp2_with fail
          refine cwp_world ?_
          intro W1 hW1
          obtain ⟨g, hg⟩ : ∃ g, g = wr.heap.size := ⟨_, rfl⟩
          have hbx : W1.heap[g]? = some (.cells #[.string x.f0, .string x.f1] 53 (0, 0)) := by rw [hW1, hg]; exact blk_new _ _
          have z0 : W1.cell? ⟨g, 0, none⟩ = some (.string x.f0) := (blk_cell hbx 0).trans rfl
          have z1 : W1.cell? ⟨g, 1, none⟩ = some (.string x.f1) := (blk_cell hbx 1).trans rfl
          have HBX := Aside0.mk hbx
          have hb1 : Below wr.heap.size wr W1 := by rw [hW1]; exact below_alloc (Below.refl _ _) _
          have HB1 := Aside0.mk (below_step HB.out hb1)
          have HR1 := Aside0.mk (Kd.R_below HR.out hb1)
          rw [← hg]
          clear hW1 hg hbx hb1 HB HR y0 y1
          by_cases hname : labels_Name.ok x.f0 = true
          · have HN := Aside0.mk (fun W => labels_Name.calls x.f0 W)
            rw [hname] at HN
            by_cases hv0 : x.f1.size = 0
            · have hbad := Aside0.mk (show Hl.mk l = none from by
                rw [← HF1.out, if_neg]
                unfold Hl.okL
                simp [hv0])
              obtain ⟨x0, x1⟩ := x
              obtain rfl : x1 = ⟨#[]⟩ := str_empty hv0
              dsimp only at z0 z1 HN
              clear hname hv0 HF1 HBX
              go_step3
              go_wp2_with (go_at_call 107; (with_reducible refine (HN.out _).mono ?_); rintro e W2 ⟨rfl, hb2⟩; have z1' := pw_cell_below hb2 z1; have HB2 := Aside0.mk (below_step HB1.out hb2); clear hb2)
              go_ret2
              exact labels_Make.bad HB2.out hbad.out
            · obtain ⟨s1, s2⟩ := str_ne hv0
              by_cases hv64 : x.f1.size ≤ 64
              · have HF2 := Aside0.mk (show (Hl.ins x out).bind (Hl.mkf (l.drop (k + 1))) = Hl.mk l from by
                  rw [← HF1.out, if_pos]
                  unfold Hl.okL
                  rw [hname, decide_eq_true hv64, bne_iff_ne.2 hv0]
                  rfl)
                have v1 : ¬ (x.f1.size : Int) > 64 := by omega
                have v2 : ¬ (64 : Int) < (x.f1.size : Int) := by omega
                have v3 : decide ((x.f1.size : Int) > 64) = false := decide_eq_false v1
                clear hname hv0 HF1
                go_step3
                go_upto_region 9 with (go_at_call 107; (with_reducible refine (HN.out _).mono ?_); rintro e W2 ⟨rfl, hb2⟩; have z0' := pw_cell_below hb2 z0; have z1' := pw_cell_below hb2 z1; have HR2 := Aside0.mk (Kd.R_below HR1.out hb2); have HB2 := Aside0.mk (below_step HB1.out hb2); clear hb2)
                have hsz := HB2.out.size
                have hol : (out.length + 1) * 32 ≤ 140737488355328 := by rw [HL.out]; omega
                go_upto_region 10 with (first | ((with_reducible refine gate_builtin (b := .append) (xs := #[.tmp 41, .tmp 43]) rfl ?_); at_builtin; refine Kd.R_append k53 (w0 := w) w.heap.size rfl (.tmp 41) (.tmp 43) 38 53 (.agg #[.string ⟨#[]⟩, .string ⟨#[]⟩]) 32 rfl Try.underlying38 info53 rfl (by decide) (by omega) u4 out x [.string x.f0, .string x.f1] (fun _ => True) (fun _ => False) rfl rfl (k53_mkM _ _ _ x) (fun _ hk => hk.elim) (fun _ _ => trivial) HR2.out HB2.out hsz hol ?_; intro v4 W3 hr3 hb3 _ _; have HR3 := Aside0.mk hr3; have HB3 := Aside0.mk hb3; clear hr3 hb3))
                have hln : (out ++ [x]).length = k + 1 := by rw [List.length_append, HL.out]; rfl
                obtain ⟨g2, cap2, e4, _, _, _⟩ := Kd.R_form HR3.out (by rw [hln]; omega)
                rw [hln] at e4
                subst e4
                clear hln hol hsz HR2 HB2 HR1 HB1 HN z0 z1 z0' z1' HBX
                have hw1 : ((k : Int) + 1) - 1 = (k : Int) := by omega
                go_step3
                go_wp2_with fail
                obtain ⟨wo, hwo⟩ : ∃ wo : World, wo = wr := ⟨_, rfl⟩
                subst hwo
                go_loopg [7, 8] k (fun kx v7 v8 wr => ∃ (i : Nat) (pre suf : List S53), v7 = .int .i64 i ∧ i ≤ kx ∧ i ≤ k ∧ pre.length = i ∧ Aside0 (out = pre ++ suf) ∧ Aside0 (∀ y ∈ suf, XLab.sc (Hl.nm x) (Hl.nm y) < 0) ∧ Aside0 (k53.R 53 wr w.heap.size (fun _ => True) (.slice (some ⟨g2, 0, none⟩) (k + 1) cap2) (pre ++ x :: suf)) ∧ Aside0 (Below w.heap.size w wr))
                case atStart => exact ⟨k, out, [], by go_num, Nat.le_refl _, Nat.le_refl _, HL.out, ⟨(List.append_nil _).symm⟩, ⟨fun _ h => by cases h⟩, HR3, HB3⟩
                case round =>
                  clear HR3 HB3
                  obtain ⟨i, pre, suf, rfl, hi, hik, hpl, HO, HSF, HR, HB⟩ := hrel
                  by_cases hi0 : 0 < i
                  · obtain ⟨j, hj⟩ : ∃ j, i = j + 1 := ⟨i - 1, by omega⟩
                    obtain ⟨p, y, hp⟩ : ∃ p y, pre = p ++ [y] := ⟨pre.dropLast, pre.getLast (by intro h; rw [h] at hpl; simp at hpl; omega), (List.dropLast_concat_getLast _).symm⟩
                    have hplj : p.length = j := by rw [hp] at hpl; simp at hpl; omega
                    have HR1 := Aside0.mk (show k53.R 53 wr w.heap.size (fun _ => True) (.slice (some ⟨g2, 0, none⟩) (k + 1) cap2) (p ++ y :: x :: suf) from by have := HR.out; rw [hp, List.append_assoc] at this; exact this)
                    have HO1 := Aside0.mk (show out = p ++ y :: suf from by have := HO.out; rw [hp, List.append_assoc] at this; exact this)
                    have HLN := Aside0.mk (show (p ++ y :: x :: suf).length = k + 1 from (R53_cells HR1.out).1.symm)
                    obtain ⟨heq, hg2, cur, hcur, hsz, hcc⟩ := R53_cells HR1.out
                    obtain ⟨a0, a1⟩ := hcc j y (by rw [← hplj]; simp)
                    obtain ⟨b0, b1⟩ := hcc i x (by rw [hj, ← hplj, List.getElem?_append_right (by omega)]; simp)
                    have hij : IntKind.i64.wrap ((i : Int) - 1) = (j : Int) := by rw [IntKind.wrap_i64]; omega
                    have hj0 : (0 : Int) ≤ (j : Int) := by omega
                    have hjk : (j : Int) < ((k + 1 : Nat) : Int) := by omega
                    have hik1 : (i : Int) < ((k + 1 : Nat) : Int) := by omega
                    have hi0z : (i : Int) > 0 := by omega
                    have hi0y : (0 : Int) < (i : Int) := by omega
                    have hi0x : (0 : Int) ≤ (i : Int) := by omega
                    have HPL := Aside0.mk hplj
                    have HJ := Aside0.mk hj
                    have HSZ := Aside0.mk hsz
                    have HCUR := Aside0.mk hcur
                    have HCC := Aside0.mk hcc
                    clear hcc hp hpl hplj hj HO HR hcur hsz heq
                    rcases sc_vals (Hl.nm y) (Hl.nm x) with hc | hc | hc
                    · have HQ := Aside0.mk (cmp_q y.f0 x.f0 _ hc)
                      have HC := Aside0.mk hc
                      clear hc
                      go_wp2_with fail
                      go_quiet ((first | (go_at_call 119; exact Calls.quiet_of (HQ.out _))))
                      go_wp2_with fail
                      have HN2 := Aside0.mk (show Hl.ins x out = some (p ++ y :: x :: suf) from by
                        rw [HO1.out]
                        have hs := HS.out
                        rw [HO1.out] at hs
                        have := Hl.ins_put x suf HSF.out (p ++ [y]) (fun z hz => by
                          have hs2 := (List.pairwise_append.1 hs).2.2
                          rcases List.mem_append.1 hz with hz | hz
                          · exact XLab.sc_tr _ _ _ (hs2 z hz y List.mem_cons_self) (by rw [HC.out]; omega)
                          · have : z = y := by simpa using hz
                            rw [this, HC.out]; omega)
                        rw [List.append_assoc, List.append_assoc] at this
                        exact this)
                      rw [Exit.noGoto_normal]
                      go_wp2_with fail
                      go_roundg (l.length - (k + 1))
                      case measure => omega
                      case rel => exact ⟨k + 1, _, by go_num, hlt, Nat.le_refl _, ⟨Kd.R_drewN HR1.out _⟩, ⟨by have := HF2.out; rw [HN2.out] at this; exact this⟩, ⟨Hl.ins_srt HN2.out HS.out⟩, HLN, ⟨pw_below_drewN HB.out _⟩⟩
                    · have HQ := Aside0.mk (cmp_q y.f0 x.f0 _ hc)
                      have HC := Aside0.mk hc
                      clear hc
                      go_wp2_with fail
                      go_quiet ((first | (go_at_call 119; exact Calls.quiet_of (HQ.out _))))
                      go_wp2_with fail
                      go_ret2
                      refine labels_Make.bad (pw_below_drewN HB.out _) ?_
                      have hs := HS.out
                      rw [HO1.out] at hs
                      have := Hl.ins_none x y suf ((XLab.sc_zero _ _).1 HC.out) p hs
                      rw [← HO1.out] at this
                      have h2 := HF2.out
                      rw [this] at h2
                      exact h2.symm
                    · have HQ := Aside0.mk (cmp_q y.f0 x.f0 _ hc)
                      have HC := Aside0.mk hc
                      clear hc
                      go_wp2_with fail
                      go_quiet ((first | (go_at_call 119; exact Calls.quiet_of (HQ.out _))))
                      go_wp2_with fail
                      obtain ⟨wq, hwq⟩ : ∃ wq, wq = wr.drewN nq := ⟨_, rfl⟩
                      rw [← hwq]
                      have HR2 := Aside0.mk (show k53.R 53 wq w.heap.size (fun _ => True) (.slice (some ⟨g2, 0, none⟩) (k + 1) cap2) (p ++ y :: x :: suf) from by rw [hwq]; exact Kd.R_drewN HR1.out _)
                      have hcu : wq.heap[g2]? = some (.cells cur 53 (0, 0)) := by rw [hwq]; exact HCUR.out
                      replace a0 : wq.cell? ⟨g2, j * 2, none⟩ = some (.string y.f0) := by rw [hwq]; exact a0
                      replace a1 : wq.cell? ⟨g2, j * 2 + 1, none⟩ = some (.string y.f1) := by rw [hwq]; exact a1
                      replace b0 : wq.cell? ⟨g2, i * 2, none⟩ = some (.string x.f0) := by rw [hwq]; exact b0
                      replace b1 : wq.cell? ⟨g2, i * 2 + 1, none⟩ = some (.string x.f1) := by rw [hwq]; exact b1
                      have hls : i * 2 + 1 < cur.size := by have h1 := HSZ.out; have h2 := HLN.out; omega
                      obtain ⟨_, _, _, f1, c2, f2⟩ := two_of (j := j * 2) hcu (by have := HJ.out; omega) (.string x.f0)
                      have hbq : Below w.heap.size w wq := by rw [hwq]; exact pw_below_drewN HB.out _
                      have HBQ := Aside0.mk hbq
                      clear hbq
                      have hR4 := R53_set (R53_set HR2.out j (by have := HLN.out; have := HJ.out; omega) x) i (by rw [List.length_set]; have := HLN.out; omega) y
                      obtain ⟨_, _, c3, f3, c4, f4⟩ := two_of (j := i * 2) (blk_set (blk_set hcu (j * 2) (.string x.f0)) (j * 2 + 1) (.string x.f1)) (by simp; omega) (.string y.f0)
                      have HR4 := Aside0.mk hR4
                      clear hcu hls hR4 hwq HR2
                      have hkk : (i : Int) < (k : Int) + 1 := by omega
                      have hjj : (j : Int) < (k : Int) + 1 := by omega
                      have d0 : wq.drew.cell? ⟨g2, j * 2, none⟩ = some (.string y.f0) := a0
                      have d1 : wq.drew.cell? ⟨g2, j * 2 + 1, none⟩ = some (.string y.f1) := a1
                      have d2 : wq.drew.cell? ⟨g2, i * 2, none⟩ = some (.string x.f0) := b0
                      have d3 : wq.drew.cell? ⟨g2, i * 2 + 1, none⟩ = some (.string x.f1) := b1
                      go_region
                      clear a0 a1 b0 b1 d0 d1 d2 d3 f1 c2 f2 c3 f3 c4 f4
                      go_wp2_with fail
                      go_roundg (j)
                      case measure => have := HJ.out; omega
                      case rel =>
                        refine ⟨j, p, y :: suf, rfl, Nat.le_refl _, by have := HJ.out; omega, HPL.out, HO1, ⟨fun z hz => ?_⟩, ⟨?_⟩, ⟨?_⟩⟩
                        · rcases List.mem_cons.1 hz with rfl | hz
                          · exact (XLab.sc_anti _ _).2 (by rw [HC.out]; omega)
                          · exact HSF.out z hz
                        · have := HR4.out
                          rw [HJ.out, ← HPL.out, list_set2, HPL.out, ← HJ.out] at this
                          exact Kd.R_drew this
                        · exact (below_drew1 (below_set (below_set (below_set (below_set HBQ.out hg2) hg2) hg2) hg2))
                  · have hi0z : ¬ (i : Int) > 0 := by omega
                    have hi0y : ¬ (0 : Int) < (i : Int) := by omega
                    go_wp2_with fail
                    have HN2 := Aside0.mk (show Hl.ins x out = some (pre ++ x :: suf) from by
                      have h1 : pre = [] := List.eq_nil_of_length_eq_zero (by omega)
                      rw [HO.out, h1]
                      exact Hl.ins_put x suf HSF.out [] (fun _ h => by cases h))
                    have HLN := Aside0.mk (show (pre ++ x :: suf).length = k + 1 from (R53_cells HR.out).1.symm)
                    go_roundg (l.length - (k + 1))
                    case measure => omega
                    case rel => exact ⟨k + 1, _, by go_num, hlt, Nat.le_refl _, HR, ⟨by have := HF2.out; rw [HN2.out] at this; exact this⟩, ⟨Hl.ins_srt HN2.out HS.out⟩, HLN, HB⟩
              · have hbad := Aside0.mk (show Hl.mk l = none from by
                  rw [← HF1.out, if_neg]
                  unfold Hl.okL
                  rw [decide_eq_false hv64]
                  simp)
                have v1 : (x.f1.size : Int) > 64 := by omega
                have v2 : (64 : Int) < (x.f1.size : Int) := by omega
                have v3 : decide ((x.f1.size : Int) > 64) = true := decide_eq_true v1
                clear hname hv0 hv64 HF1 HBX
                go_step3
                go_wp2_with (go_at_call 107; (with_reducible refine (HN.out _).mono ?_); rintro e W2 ⟨rfl, hb2⟩; have z1' := pw_cell_below hb2 z1; have HB2 := Aside0.mk (below_step HB1.out hb2); clear hb2)
                go_ret2
                exact labels_Make.bad HB2.out hbad.out
          · have hbad := Aside0.mk (show Hl.mk l = none from by
              rw [← HF1.out, if_neg]
              unfold Hl.okL
              rw [eq_false_of_ne_true hname]
              simp)
            have HN := Aside0.mk (fun W => labels_Name.calls x.f0 W)
            rw [eq_false_of_ne_true hname] at HN
            clear hname
            go_step3
            go_wp2_with (go_at_call 107; (with_reducible refine (HN.out _).mono ?_); rintro e W2 ⟨rfl, hb2⟩; have HB2 := Aside0.mk (below_step HB1.out hb2); clear hb2)
            go_ret2
            exact labels_Make.bad HB2.out hbad.out
        · have hltz : ¬ (k : Int) < (l.length : Int) := by omega
          have hm := HF.out
          rw [List.drop_of_length_le (show l.length ≤ k by omega)] at hm
          have HM := Aside0.mk (show Hl.mk l = some out from hm.symm)
          clear hm HF
          go_wp2_with fail
          go_ret2
          exact labels_Make.good HB.out HM.out HR.out
end
end Go.Proofs.Ytcgocdhffcnleaa.PHead
