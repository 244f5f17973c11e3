/- Parts of the proof of the law's row, put together: see the theorems' own lines. -/
import Derived.Test.YtcgocdhffcnleaaVHeadCutsay
import Derived.Lib.Overlaps
import Derived.Laws.CopyOwn
import Derived.Laws.IdiomCopy
import Derived.Lib.AppendZeros
import Derived.StillTailTactics
import Derived.Outline
import Derived.Test.YtcgocdhffcnleaaVHeadCutsag
/- A part of the proofs about the head: see the theorems' own lines. -/
namespace Go.Proofs.Ytcgocdhffcnleaa.PHead
open Go Go.RowKit Go.Proofs.YtcgocdhffcnleaaW.PrintWords Go.Proofs.YtcgocdhffcnleaaW.PrintLast Go.Proofs.YtcgocdhffcnleaaW.PrintMore Go.Proofs.Ytcgocdhffcnleaa.XB Go.Proofs.Ytcgocdhffcnleaa.PHeadPlays Go.Proofs.Ytcgocdhffcnleaa.XH
set_option linter.unusedVariables false
set_option linter.unusedSimpArgs false
/-! ### slices.Insert of one sample -/
section
def enc44 (xs : List S44) : List Value := xs.flatMap fun x => [.int .i64 x.f0, .int .i64 x.f1]
theorem enc44_len : ∀ xs : List S44, (enc44 xs).length = xs.length * 2
  | [] => rfl
  | x :: xs => by rw [enc44, List.flatMap_cons, List.length_append, ← enc44, enc44_len xs, List.length_cons]; simp; omega
theorem enc44_app (xs ys : List S44) : enc44 (xs ++ ys) = enc44 xs ++ enc44 ys := by unfold enc44; exact List.flatMap_append
theorem enc44_take : ∀ (xs : List S44) (i : Nat), enc44 (xs.take i) = (enc44 xs).take (i * 2)
  | [], i => by simp [enc44]
  | x :: xs, 0 => by simp [enc44]
  | x :: xs, i + 1 => by
    rw [List.take_succ_cons, show (i + 1) * 2 = i * 2 + 2 by omega]
    show [Value.int .i64 x.f0, .int .i64 x.f1] ++ enc44 (xs.take i) = List.take (i * 2 + 2) ([Value.int .i64 x.f0, .int .i64 x.f1] ++ enc44 xs)
    rw [enc44_take xs i]
    rfl
theorem enc44_drop : ∀ (xs : List S44) (i : Nat), enc44 (xs.drop i) = (enc44 xs).drop (i * 2)
  | [], i => by simp [enc44]
  | x :: xs, 0 => by simp [enc44]
  | x :: xs, i + 1 => by
    rw [List.drop_succ_cons, show (i + 1) * 2 = i * 2 + 2 by omega]
    show enc44 (xs.drop i) = List.drop (i * 2 + 2) ([Value.int .i64 x.f0, .int .i64 x.f1] ++ enc44 xs)
    rw [enc44_drop xs i]
    rfl
theorem enc44_one (xs : List S44) : ∀ v ∈ enc44 xs, v.oneCell' = true := by
  intro v hv
  obtain ⟨x, _, hx⟩ := List.mem_flatMap.1 hv
  simp only [List.mem_cons, List.not_mem_nil, or_false] at hx
  rcases hx with rfl | rfl <;> rfl
theorem enc44_reps {R : S44 → List Value → Prop} (hR : ∀ x, R x [.int .i64 x.f0, .int .i64 x.f1]) : ∀ xs : List S44, Reps R 2 xs (enc44 xs) := by
  intro xs
  refine ⟨enc44_len xs, fun j p hj => ?_⟩
  have hjl : j < xs.length := (List.getElem?_eq_some_iff.1 hj).1
  have he : xs[j] = p := (List.getElem?_eq_some_iff.1 hj).2
  have h1 : ((enc44 xs).drop (j * 2)).take 2 = [.int .i64 p.f0, .int .i64 p.f1] := by
    rw [← enc44_drop, List.drop_eq_getElem_cons hjl, he]
    rfl
  rw [h1]
  exact hR p
theorem reps_enc44 {R : S44 → List Value → Prop} (hR : ∀ x cs, R x cs → cs = [.int .i64 x.f0, .int .i64 x.f1]) : ∀ (xs : List S44) (cs : List Value), Reps R 2 xs cs → cs = enc44 xs
  | [], cs, h => by
    have := h.1
    exact List.eq_nil_of_length_eq_zero (by simpa using this)
  | x :: xs, cs, h => by
    have hl := h.1
    simp only [List.length_cons] at hl
    have h0 := hR _ _ (h.2 0 x rfl)
    rw [Nat.zero_mul, List.drop_zero] at h0
    have ih := reps_enc44 hR xs (cs.drop 2) ⟨by rw [List.length_drop]; omega, fun j p hj => by
      have := h.2 (j + 1) p (by simpa using hj)
      rw [List.drop_drop]
      rw [show 2 + j * 2 = (j + 1) * 2 by omega]
      exact this⟩
    rw [← List.take_append_drop 2 cs, h0, ih]
    rfl
theorem R44_raw {W : World} {base n cap : Nat} {A : Option Addr} {xs : List S44} (h : k44.R 44 W base (fun _ => True) (.slice A n cap) xs) (hp : 0 < xs.length) :
    ∃ g cur, A = some ⟨g, 0, none⟩ ∧ n = xs.length ∧ base ≤ g ∧ W.heap[g]? = some (.cells cur 44 (0, 0)) ∧ n ≤ cap ∧ cap ≤ maxLen ∧ cur.size = cap * 2 ∧ cur.toList.take (n * 2) = enc44 xs := by
  obtain ⟨_, inner, ho, hr⟩ := h
  have hin := reps_enc44 (fun x cs hc => k44_openM hc) xs inner hr
  rcases ho.2 with ⟨hv, hz⟩ | ⟨g, cap', cur, hv, hb, hh, h1, h2, h3, h4⟩
  · omega
  · injection hv with hv1 hv2 hv3
    subst hv2 hv3
    exact ⟨g, cur, hv1, rfl, hb, hh, h1, h2, h3, by rw [← hin]; exact h4⟩
theorem R44_of {W : World} {base g cap : Nat} {xs : List S44} {cur : Array Value} (hb : base ≤ g) (hh : W.heap[g]? = some (.cells cur 44 (0, 0))) (h1 : xs.length ≤ cap) (h2 : cap ≤ maxLen) (h3 : cur.size = cap * 2) (h4 : cur.toList.take (xs.length * 2) = enc44 xs) :
    k44.R 44 W base (fun _ => True) (.slice (some ⟨g, 0, none⟩) xs.length cap) xs :=
  ⟨fun _ _ => trivial, enc44 xs, ⟨enc44_len xs, .inr ⟨g, cap, cur, rfl, hb, hh, h1, h2, h3, h4⟩⟩, enc44_reps (fun x => k44_mkM _ _ _ x) xs⟩
theorem run_copy2 (W : World) (ty : TypeId) (g o dLen dCap sLen sCap m : Nat) (a : Addr) (cs : List Value) (cur : Array Value) (hm : Nat.min sLen dLen = m) (hcs : cs.length = m * 2)
    (hsrc : ∀ j v, cs[j]? = some v → W.cell? (a.add j) = some v) (hg : W.heap[g]? = some (.cells cur 44 (0, 0))) (hfit : o + cs.length ≤ cur.size) (h1 : ∀ v ∈ cs, v.oneCell' = true) :
    (Builtin.copy_ #[50, 50] ty #[.slice (some ⟨g, o, none⟩) dLen dCap, .slice (some a) sLen sCap]).run Try.prog W = .ok (.int .i64 m) (W.setCells g o cs) := by
  have hl := run_loadCells_list (P := Try.prog) W a cs hsrc
  have hst := run_storeCells_cells (P := Try.prog) g o cs 0 W (fun j hj => by rw [blk_cell hg, Array.getElem?_eq_getElem (by omega)]; rfl) (fun j hj => blk_frozen hg _) h1
  obtain ⟨i0, hi, _, hsz, _⟩ := info_parts info44
  rw [hcs] at hl
  simp [Builtin.copy_, run_underlying Try.underlying50, Builtin.lenOf, Builtin.firstCells, sizeOf, typeInfo, hi, hsz, hm, hl, hst, goInt]
theorem cell_at {W : World} {g : Nat} {cur : Array Value} (hg : W.heap[g]? = some (.cells cur 44 (0, 0))) (o : Nat) (j : Nat) (v : Value) (h : (cur.toList.drop o)[j]? = some v) : W.cell? ((⟨g, o, none⟩ : Addr).add j) = some v := by
  rw [add_at, blk_cell hg]
  rw [List.getElem?_drop] at h
  simpa using h
end
section
/-- append(s[:i], make(S, m)...) where there is no room: a new row. -/
theorem run_zeros_new (W : World) (g i cap m : Nat) (ty : TypeId) (cs : List Value) (hcs : cs.length = i * 2) (hc : ∀ j u, cs[j]? = some u → W.cell? ((⟨g, 0, none⟩ : Addr).add j) = some u) (hcap : cap < i + m) (hm0 : m ≠ 0) (hl : (i + m) * 16 ≤ 140737488355328) :
    (Builtin.append_ #[50, 3] ty #[.slice (some ⟨g, 0, none⟩) i cap, .int .i64 m]).run Try.prog W =
      .ok (.slice (some ⟨W.heap.size, 0, none⟩) (i + m) (grownCap W (i + m) cap 44)) (W.drew.alloc (.cells (cs.toArray ++ Builtin.zeroCells #[.int .i64 0, .int .i64 0] m ++ Builtin.zeroCells #[.int .i64 0, .int .i64 0] (grownCap W (i + m) cap 44 - (i + m))) 44)) := by
  obtain ⟨i0, hi, hz0, hz1, hz2⟩ := info_parts info44
  have hw : IntKind.i64.wrap (m : Int) = m := by rw [IntKind.wrap_i64]; omega
  have hneg : ¬ ((m : Int) < 0) := by omega
  have hbig : ¬ (281474976710656 < (m : Int) * (i0.bytes : Int)) := by rw [hz2]; omega
  have hn : ¬ (i + m ≤ cap) := by omega
  have h63' : ¬ (9223372036854775807 < ((i : Int) + (m : Int))) := by omega
  have hfit := growslice_fits (bytes := 16) hcap hl
  have h48' : ¬ (281474976710656 < Builtin.nextslicecap (i + m) cap * i0.bytes) := by rw [hz2]; omega
  have hfo := run_firstCells_some (P := Try.prog) W.drew 2 i ⟨g, 0, none⟩ i cap cs hcs (by simpa using hc)
  have hmz : ¬ (m * i0.size = 0) := by rw [hz1]; omega
  have hmz2 : ¬ (m * 2 = 0) := by omega
  simp [Builtin.append_, run_underlying Try.underlying50, run_underlying Try.underlying3, sizeOf, typeInfo, zeroValue, hi, hz0, hz1, asInt, asIntOf, hw, hneg, hbig, hn, h63', h48', Question.forced, hfo, newRow, grownCap, hmz, hmz2, hm0]
  rfl
theorem _root_.Go.World.grownBy.trans_same {w w1 w2 : World} {row : Option Nat} (h : w.grownBy w1 row) (k : w1.grownBy w2 row) : w.grownBy w2 row :=
  ⟨k.os.trans h.os, k.tape.trans h.tape, k.output.trans h.output, Nat.le_trans h.size k.size, fun i hi hr => (k.block i (Nat.lt_of_lt_of_le hi h.size) hr).trans (h.block i hi hr)⟩
def Ins.Post (base : Nat) (W : World) (v : Value) (xs' : List S44) (e : Ending) (w' : World) : Prop :=
  ∃ v', e = .returned v' ∧ k44.R 44 w' base (fun _ => True) v' xs' ∧ W.grownBy w' v.ownBlock ∧ (v'.ownBlock = v.ownBlock ∨ ∃ b, v'.ownBlock = some b ∧ W.heap.size ≤ b)
set_option maxHeartbeats 8000000 in
set_option maxRecDepth 100000 in
theorem Insert.atEnd (base : Nat) (W : World) (A : Option Addr) (cap : Nat) (xs : List S44) (s : S44) (vb : Nat) (hR : k44.R 44 W base (fun _ => True) (.slice A xs.length cap) xs) (hv : W.heap[vb]? = some (.cells #[.int .i64 s.f0, .int .i64 s.f1] 44 (0, 0))) (hbase : base ≤ W.heap.size) (hl : xs.length ≤ 1099511627776) :
    Calls Try.prog 139 #[.slice A xs.length cap, .int .i64 (xs.length : Nat), .slice (some ⟨vb, 0, none⟩) 1 1] W fun e w' => Ins.Post base W (.slice A xs.length cap) (xs ++ [s]) e w' := by
  have HR := Aside0.mk hR
  have HV := Aside0.mk hv
  have hcap := (Kd.R_reads' hR).2.1
  obtain ⟨i0, hi, hz0, hz1, hz2⟩ := info_parts info44
  have hcut := cut_from (P := Try.prog) 50 44 .i64 Try.underlying50 hi 2 hz1 A xs.length cap (xs.length : Nat) (by omega) (by omega)
  have HVC := Aside0.mk (show Kd.C k44 W (some ⟨vb, 0, none⟩) [s].length [s] from by
    refine ⟨rfl, by simp, fun hp => ⟨_, rfl, fun j x hj => ?_⟩⟩
    match j with
    | 0 =>
      have e := Option.some.inj hj
      subst e
      refine ⟨_, rfl, k44_mk _ _, fun i u hu => ?_⟩
      match i with
      | 0 => exact (blk_cell hv 0).trans hu
      | 1 => exact (blk_cell hv 1).trans hu
      | i + 2 => simp at hu
    | j + 1 => simp at hj)
  have HBS := Aside0.mk hbase
  obtain ⟨n, hn⟩ : ∃ n, n = xs.length := ⟨_, rfl⟩
  have HN := Aside0.mk hn
  rw [← hn] at HR hcut ⊢
  obtain ⟨A1, hA1⟩ : ∃ A1, (if cap = (n : Int).toNat then A else A.map (·.add ((n : Int).toNat * 2))) = A1 := ⟨_, rfl⟩
  rw [hA1] at hcut
  clear hA1
  clear hR hv hcap hi hz0 hz1 hz2 hbase hn
  go_enter Try.func139, Try.ntmps139
  go_wp2_with (first | ((with_reducible refine gate_builtin (b := .append) (xs := #[.tmp 23, .tmp 24]) rfl ?_); at_builtin; refine Kd.R_append_rows k44 (Rr := k44.K W) (w0 := W) base rfl (.tmp 23) (.tmp 24) 50 44 (.agg #[.int .i64 0, .int .i64 0]) 16 rfl Try.underlying50 info44 rfl (by decide) (by omega) (.slice A n cap) xs [s] (some ⟨vb, 0, none⟩) 1 1 (fun _ => True) (fun _ => False) rfl rfl HR.out HVC.out (fun x cs hx => by have := k44_open hx; subst this; exact k44_mkM _ _ _ _) (fun _ h => h.elim) (fun _ _ => trivial) (Below.refl _ _) HBS.out (by have := HN.out; omega) ?_; intro v1 w1 hr1 hb1 hg1 hat1; have HR1 := Aside0.mk hr1; have HG1 := Aside0.mk hg1; have HAT := Aside0.mk hat1; clear hr1 hb1 hg1 hat1))
  go_ret
  exact ⟨_, rfl, HR1.out, HG1.out, HAT.out⟩
set_option maxHeartbeats 8000000 in
set_option maxRecDepth 100000 in
theorem Insert.shift (base : Nat) (W : World) (A : Option Addr) (cap : Nat) (xs : List S44) (i : Nat) (s : S44) (vb : Nat) (hR : k44.R 44 W base (fun _ => True) (.slice A xs.length cap) xs) (hv : W.heap[vb]? = some (.cells #[.int .i64 s.f0, .int .i64 s.f1] 44 (0, 0))) (hne : some vb ≠ (Value.slice A xs.length cap).ownBlock) (hi : i < xs.length) (hc : xs.length + 1 ≤ cap) (hl : xs.length ≤ 1099511627776) :
    Calls Try.prog 139 #[.slice A xs.length cap, .int .i64 (i : Nat), .slice (some ⟨vb, 0, none⟩) 1 1] W fun e w' => Ins.Post base W (.slice A xs.length cap) (xs.take i ++ s :: xs.drop i) e w' := by
  obtain ⟨g, cur, rfl, _, hbg, hg, hnc, hcm, hsz, hpre⟩ := R44_raw hR (by omega)
  have hgv : vb ≠ g := fun e => hne (by rw [e]; rfl)
  obtain ⟨n, hn⟩ : ∃ n, n = xs.length := ⟨_, rfl⟩
  obtain ⟨i0, hi0, hz0, hz1, hz2⟩ := info_parts info44
  rw [← hn] at hpre hnc hi hc hl ⊢
  have c1 := cut_from (P := Try.prog) 50 44 .i64 Try.underlying50 hi0 2 hz1 (some ⟨g, 0, none⟩) n cap (i : Nat) (by omega) (by omega)
  have c2 := cut_upto (P := Try.prog) 50 44 .i64 Try.underlying50 hi0 (some ⟨g, 0, none⟩) n cap ((n : Int) + 1) (by omega) (by omega)
  have c3 := cut_from (P := Try.prog) 50 44 .i64 Try.underlying50 hi0 2 hz1 (some ⟨g, 0, none⟩) (n + 1) cap ((i : Int) + 1) (by omega) (by omega)
  have c4 := cut_from (P := Try.prog) 50 44 .i64 Try.underlying50 hi0 2 hz1 (some ⟨g, 0, none⟩) (n + 1) cap (i : Nat) (by omega) (by omega)
  rw [show ((n : Int) + 1).toNat = n + 1 by omega] at c2
  rw [show ((i : Int) + 1).toNat = i + 1 by omega, if_neg (by omega)] at c3
  rw [Int.toNat_natCast, if_neg (by omega)] at c1 c4
  simp only [Option.map_some, add_plain] at c1 c3 c4
  rw [show n + 1 - (i + 1) = n - i by omega] at c3
  have HG := Aside0.mk hg
  have HV := Aside0.mk hv
  have HPRE := Aside0.mk hpre
  have HSZ := Aside0.mk hsz
  have HN := Aside0.mk hn
  have HBG := Aside0.mk hbg
  have HCM := Aside0.mk hcm
  have hiz : ¬ (i : Int) = (n : Int) := by omega
  have hiy : ((i : Int) == (n : Int)) = false := by rw [beq_eq_false_iff_ne]; omega
  have hcz : ¬ (n : Int) + 1 > (cap : Int) := by omega
  have hcy : ¬ (cap : Int) < (n : Int) + 1 := by omega
  clear hR hv hne hpre hsz hn hbg hg hi0 hz0 hz1 hz2
  go_enter Try.func139, Try.ntmps139
  go_upto_region 14 with fail
  have hov : (callFunc 148 #[.slice (some ⟨vb, 0, none⟩) 1 1, .slice (some ⟨g, (i + 1) * 2, none⟩) (n - i) (cap - (i + 1))]).run Try.prog W = .ok (.value (.bool false)) W := by
    rw [run_callFunc_extern Try.func148 (by kernel_rfl) (by kernel_rfl) (by kernel_rfl) (e := Extern.SlicesOverlaps.overlaps #[50, 50] #[4]) (by kernel_rfl)]
    rw [Lib.run_overlaps_apart W 50 4 44 Try.underlying50 2 (fun w => Try.sizeOf44 w) ⟨vb, 0, none⟩ ⟨g, (i + 1) * 2, none⟩ 1 1 (n - i) (cap - (i + 1)) hgv 44 44 2 (cap * 2) (by simp [World.shape?, HV.out]) (by simp [World.shape?, HG.out, HSZ.out]) (by omega) (blk_frozen HV.out 0) (blk_frozen HV.out 2)]
    rfl
  have hni : IntKind.i64.wrap ((i : Int) + 1) = (i : Int) + 1 := by rw [IntKind.wrap_i64]; omega
  obtain ⟨cs, hcs⟩ : ∃ cs, cs = enc44 (xs.drop i) := ⟨_, rfl⟩
  have hcl : cs.length = (n - i) * 2 := by rw [hcs, enc44_len, List.length_drop, ← HN.out]
  have hcd : cs = (cur.toList.drop (i * 2)).take ((n - i) * 2) := by
    rw [hcs, enc44_drop, ← HPRE.out, List.drop_take]
    congr 1
    omega
  have hcp1 := fun ty : TypeId => run_copy2 W.drew ty g ((i + 1) * 2) (n - i) (cap - (i + 1)) (n + 1 - i) (cap - i) (n - i) ⟨g, i * 2, none⟩ cs cur (Nat.min_eq_right (by omega)) hcl (fun j v hj => cell_at HG.out (i * 2) j v (by
      rw [hcd, List.getElem?_take] at hj
      split at hj
      · exact hj
      · cases hj)) HG.out (by rw [hcl, HSZ.out]; omega) (by rw [hcs]; exact enc44_one _)
  have HCS := Aside0.mk hcs
  have HCL := Aside0.mk hcl
  have HCD := Aside0.mk hcd
  clear hcs hcl hcd
  go_upto_region 15 with fail
  clear hov
  go_region
  go_upto_region 16 with fail
  refine cwp_world ?_
  intro W5 hW5
  have hfit : (i + 1) * 2 + cs.length ≤ cur.size := by rw [HCL.out, HSZ.out]; omega
  obtain ⟨cur5, hg5, hs5, hl5⟩ := setCells_row (e := 44) cs ((i + 1) * 2) W.drew cur HG.out hfit
  have hbk5 : W5.heap[g]? = some (.cells cur5 44 (0, 0)) := by rw [hW5]; exact hg5
  have hvb5 : W5.heap[vb]? = some (.cells #[.int .i64 s.f0, .int .i64 s.f1] 44 (0, 0)) := by rw [hW5]; exact (setCells_far cs ((i + 1) * 2) vb hgv).trans HV.out
  have hgr5 : W.grownBy W5 (some g) := by
    rw [hW5]
    obtain ⟨h1, h2, h3, h4⟩ := setCells_same g cs ((i + 1) * 2) W.drew
    exact ⟨h1, h2, h3, Nat.le_of_eq h4.symm, fun k _ hk => setCells_far cs ((i + 1) * 2) k (fun e => hk (by rw [e]))⟩
  have hcp2 := fun ty : TypeId => run_copy2 W5 ty g (i * 2) (n + 1 - i) (cap - i) 1 1 1 ⟨vb, 0, none⟩ [.int .i64 s.f0, .int .i64 s.f1] cur5 (Nat.min_eq_left (by omega)) rfl (fun j v hj => cell_at hvb5 0 j v (by simpa using hj)) hbk5 (by rw [hs5, HSZ.out]; simp; omega) (by intro v hv; simp only [List.mem_cons, List.not_mem_nil, or_false] at hv; rcases hv with rfl | rfl <;> rfl)
  have HBK5 := Aside0.mk hbk5
  have HL5 := Aside0.mk hl5
  have HS5 := Aside0.mk hs5
  have HGR5 := Aside0.mk hgr5
  clear hcp1 hW5 hfit hg5 hs5 hl5 hbk5 hvb5 hgr5 c1 c2 c3
  go_wp2_with fail
  go_ret
  obtain ⟨cur6, hg6, hs6, hl6⟩ := setCells_row (e := 44) [.int .i64 s.f0, .int .i64 s.f1] (i * 2) W5 cur5 HBK5.out (by rw [HS5.out, HSZ.out]; show i * 2 + 2 ≤ cap * 2; omega)
  have hxl : (xs.take i ++ s :: xs.drop i).length = n + 1 := by rw [List.length_append, List.length_cons, List.length_take, List.length_drop, ← HN.out]; omega
  have hcs2 : cur6.toList.take ((n + 1) * 2) = enc44 (xs.take i ++ s :: xs.drop i) := by
    have e1 : enc44 (xs.take i ++ s :: xs.drop i) = cur.toList.take (i * 2) ++ ([.int .i64 s.f0, .int .i64 s.f1] ++ cs) := by
      rw [enc44_app, enc44_take, ← HPRE.out, List.take_take, Nat.min_eq_left (by omega)]
      congr 1
      show [Value.int .i64 s.f0, .int .i64 s.f1] ++ enc44 (xs.drop i) = _
      rw [HCS.out]
    have hcul : cur.toList.length = cap * 2 := by rw [Array.length_toList, HSZ.out]
    rw [hl6, HL5.out, e1]
    have t1 : (cur.toList.take ((i + 1) * 2) ++ cs ++ cur.toList.drop ((i + 1) * 2 + cs.length)).take (i * 2) = cur.toList.take (i * 2) := by
      rw [List.append_assoc, List.take_append_of_le_length (by rw [List.length_take, hcul]; omega), List.take_take, Nat.min_eq_left (by omega)]
    have t2 : (cur.toList.take ((i + 1) * 2) ++ cs ++ cur.toList.drop ((i + 1) * 2 + cs.length)).drop (i * 2 + [Value.int .i64 s.f0, .int .i64 s.f1].length) = cs ++ cur.toList.drop ((i + 1) * 2 + cs.length) := by
      have hlt : (cur.toList.take ((i + 1) * 2)).length = i * 2 + [Value.int .i64 s.f0, .int .i64 s.f1].length := by rw [List.length_take, hcul]; simp; omega
      rw [List.append_assoc, ← hlt, List.drop_left]
    rw [t1, t2]
    have hl1 : (cur.toList.take (i * 2) ++ [Value.int .i64 s.f0, .int .i64 s.f1] ++ cs).length = (n + 1) * 2 := by
      rw [List.length_append, List.length_append, List.length_take, hcul, HCL.out]
      simp
      omega
    rw [← List.append_assoc, ← hl1, List.take_left, List.append_assoc]
  refine ⟨_, rfl, ?_, ?_, .inl rfl⟩
  · have := R44_of (base := base) (g := g) (cap := cap) (xs := xs.take i ++ s :: xs.drop i) (cur := cur6) HBG.out hg6 (by rw [hxl]; exact hc) HCM.out (by rw [hs6, HS5.out, HSZ.out]) (by rw [hxl]; exact hcs2)
    rw [hxl] at this
    exact this
  · obtain ⟨h1, h2, h3, h4⟩ := setCells_same g [.int .i64 s.f0, .int .i64 s.f1] (i * 2) W5
    exact HGR5.out.trans_same ⟨h1, h2, h3, Nat.le_of_eq h4.symm, fun k _ hk => setCells_far [.int .i64 s.f0, .int .i64 s.f1] (i * 2) k (fun e => hk (by rw [e]))⟩
set_option maxHeartbeats 8000000 in
set_option maxRecDepth 100000 in
theorem Insert.grow (base : Nat) (W : World) (A : Option Addr) (cap : Nat) (xs : List S44) (i : Nat) (s : S44) (vb : Nat) (hR : k44.R 44 W base (fun _ => True) (.slice A xs.length cap) xs) (hv : W.heap[vb]? = some (.cells #[.int .i64 s.f0, .int .i64 s.f1] 44 (0, 0))) (hbase : base ≤ W.heap.size) (hi : i < xs.length) (hc : cap < xs.length + 1) (hl : xs.length ≤ 1099511627776) :
    Calls Try.prog 139 #[.slice A xs.length cap, .int .i64 (i : Nat), .slice (some ⟨vb, 0, none⟩) 1 1] W fun e w' => Ins.Post base W (.slice A xs.length cap) (xs.take i ++ s :: xs.drop i) e w' := by
  obtain ⟨g, cur, rfl, _, hbg, hg, hnc, hcm, hsz, hpre⟩ := R44_raw hR (by omega)
  obtain ⟨n, hn⟩ : ∃ n, n = xs.length := ⟨_, rfl⟩
  obtain ⟨i0, hi0, hz0, hz1, hz2⟩ := info_parts info44
  rw [← hn] at hpre hnc hi hc hl ⊢
  obtain rfl : cap = n := by omega
  have c1 := cut_from (P := Try.prog) 50 44 .i64 Try.underlying50 hi0 2 hz1 (some ⟨g, 0, none⟩) cap cap (i : Nat) (by omega) (by omega)
  have c2 := cut_to (P := Try.prog) 50 44 .i64 Try.underlying50 hi0 (some ⟨g, 0, none⟩) cap cap (i : Nat) (by omega) (by omega) (Nat.le_refl _)
  rw [Int.toNat_natCast, if_neg (by omega)] at c1
  rw [Int.toNat_natCast] at c2
  simp only [Option.map_some, add_plain] at c1
  obtain ⟨m, hm⟩ : ∃ m, m = cap + 1 - i := ⟨_, rfl⟩
  obtain ⟨W5, hW5⟩ : ∃ W5, W5 = W.drew.alloc (.cells ((enc44 (xs.take i)).toArray ++ Builtin.zeroCells #[.int .i64 0, .int .i64 0] m ++ Builtin.zeroCells #[.int .i64 0, .int .i64 0] (grownCap W (i + m) cap 44 - (i + m))) 44) := ⟨_, rfl⟩
  obtain ⟨gc, hgc⟩ : ∃ gc, gc = grownCap W (i + m) cap 44 := ⟨_, rfl⟩
  have hgc1 : cap + 1 ≤ gc := by rw [hgc]; have := grownCap_ge W (i + m) cap 44; omega
  have hgc2 : gc ≤ maxLen := by rw [hgc]; exact grownCap_le_maxLen W (i + m) cap 44 (by unfold maxLen; omega)
  have hzr := fun ty : TypeId => run_zeros_new W g i cap m ty (enc44 (xs.take i)) (by rw [enc44_len, List.length_take, ← hn]; omega) (fun j u hj => by
    refine cell_at hg 0 j u ?_
    rw [List.drop_zero]
    rw [enc44_take, ← hpre, List.take_take, List.getElem?_take] at hj
    split at hj
    · exact hj
    · cases hj) (by omega) (by omega) (by omega)
  rw [← hW5, ← hgc] at hzr
  rw [show i + m = cap + 1 by omega] at hzr
  obtain ⟨g2, hg2⟩ : ∃ g2, g2 = W.heap.size := ⟨_, rfl⟩
  obtain ⟨cur2, hc2⟩ : ∃ cur2, cur2 = (enc44 (xs.take i)).toArray ++ Builtin.zeroCells #[.int .i64 0, .int .i64 0] m ++ Builtin.zeroCells #[.int .i64 0, .int .i64 0] (grownCap W (i + m) cap 44 - (i + m)) := ⟨_, rfl⟩
  have hbk5 : W5.heap[g2]? = some (.cells cur2 44 (0, 0)) := by rw [hW5, hg2, hc2]; exact blk_new W.drew _
  have hs2 : cur2.size = gc * 2 := by
    rw [hc2, Array.size_append, Array.size_append, size_zeroCells, size_zeroCells, List.size_toArray, enc44_len, List.length_take, ← hn, ← hgc]
    simp
    omega
  have ht2 : cur2.toList.take (i * 2) = enc44 (xs.take i) := by
    rw [hc2, Array.toList_append, Array.toList_append, List.append_assoc]
    have : (enc44 (xs.take i)).length = i * 2 := by rw [enc44_len, List.length_take, ← hn]; omega
    rw [← this]
    exact List.take_left
  have hb5 : Below W.heap.size W W5 := by rw [hW5]; exact below_alloc (below_drew1 (Below.refl _ _)) _
  rw [← hg2] at hzr
  have HG5 := Aside0.mk (blk_below hg hb5)
  have HV5 := Aside0.mk (blk_below hv hb5)
  have HB5 := Aside0.mk hb5
  have HBK5 := Aside0.mk hbk5
  have HS2 := Aside0.mk hs2
  have HT2 := Aside0.mk ht2
  have HG2 := Aside0.mk hg2
  have HPRE := Aside0.mk hpre
  have HSZ := Aside0.mk hsz
  have HN := Aside0.mk hn
  have HBS := Aside0.mk hbase
  have HGC2 := Aside0.mk hgc2
  have hgv : vb ≠ g2 := by rw [hg2]; exact Nat.ne_of_lt (blk_lt hv)
  have hgg : g ≠ g2 := by rw [hg2]; exact Nat.ne_of_lt (blk_lt hg)
  have d1 := cut_from (P := Try.prog) 50 44 .i64 Try.underlying50 hi0 2 hz1 (some ⟨g2, 0, none⟩) (cap + 1) gc (i : Nat) (by omega) (by omega)
  have d2 := cut_from (P := Try.prog) 50 44 .i64 Try.underlying50 hi0 2 hz1 (some ⟨g2, 0, none⟩) (cap + 1) gc ((i : Int) + 1) (by omega) (by omega)
  rw [Int.toNat_natCast, if_neg (by omega)] at d1
  rw [show ((i : Int) + 1).toNat = i + 1 by omega, if_neg (by omega)] at d2
  simp only [Option.map_some, add_plain] at d1 d2
  rw [show cap + 1 - (i + 1) = cap - i by omega] at d2
  have hiz : ¬ (i : Int) = (cap : Int) := by omega
  have hiy : ((i : Int) == (cap : Int)) = false := by rw [beq_eq_false_iff_ne]; omega
  have hcz : (cap : Int) + 1 > (cap : Int) := by omega
  have hcy : (cap : Int) < (cap : Int) + 1 := by omega
  have hmz : (cap : Int) + 1 - (i : Int) = (m : Int) := by omega
  have hcp1 := fun ty : TypeId => run_copy2 W5 ty g2 (i * 2) (cap + 1 - i) (gc - i) 1 1 1 ⟨vb, 0, none⟩ [.int .i64 s.f0, .int .i64 s.f1] cur2 (Nat.min_eq_left (by omega)) rfl (fun j v hj => cell_at HV5.out 0 j v (by simpa using hj)) HBK5.out (by rw [HS2.out]; show i * 2 + 2 ≤ gc * 2; omega) (by intro v hv; simp only [List.mem_cons, List.not_mem_nil, or_false] at hv; rcases hv with rfl | rfl <;> rfl)
  clear hR hv hpre hsz hn hbg hg hi0 hz0 hz1 hz2 hW5 hgc hm hg2 hc2 hbk5 hs2 ht2 hb5 hgc2 hbase
  go_enter Try.func139, Try.ntmps139
  have hmw : IntKind.i64.wrap ((cap : Int) + 1 - (i : Int)) = (m : Int) := by rw [IntKind.wrap_i64]; omega
  go_upto_region 10 with (at_builtin; refine Lib.wpList_append_run _ rfl _ _ _ _ rfl _ _ rfl rfl _ _ (hzr _) ?_)
  clear hzr c2 hmz hmw
  go_upto_region 11 with fail
  refine cwp_world ?_
  intro W6 hW6
  obtain ⟨cur3, hg3, hs3, hl3⟩ := setCells_row (e := 44) [.int .i64 s.f0, .int .i64 s.f1] (i * 2) W5 cur2 HBK5.out (by rw [HS2.out]; show i * 2 + 2 ≤ gc * 2; omega)
  have HBK6 := Aside0.mk (show W6.heap[g2]? = some (.cells cur3 44 (0, 0)) by rw [hW6]; exact hg3)
  have HG6 := Aside0.mk (show W6.heap[g]? = some (.cells cur 44 (0, 0)) by rw [hW6]; exact (setCells_far _ _ g hgg).trans HG5.out)
  have HB6 := Aside0.mk (show Below W.heap.size W W6 by
    rw [hW6]
    obtain ⟨h1, h2, h3, h4⟩ := setCells_same g2 [.int .i64 s.f0, .int .i64 s.f1] (i * 2) W5
    exact ⟨h1.trans HB5.out.os, h2.trans HB5.out.tape, h3.trans HB5.out.output, Nat.le_trans HB5.out.size (Nat.le_of_eq h4.symm), fun k hk => (setCells_far _ _ k (by rw [HG2.out]; exact Nat.ne_of_lt hk)).trans (HB5.out.block k hk)⟩)
  have HS3 := Aside0.mk hs3
  have HL3 := Aside0.mk hl3
  clear hW6 hg3 hs3 hl3 hcp1
  have hni : IntKind.i64.wrap ((i : Int) + 1) = (i : Int) + 1 := by rw [IntKind.wrap_i64]; omega
  obtain ⟨cs, hcs⟩ : ∃ cs, cs = enc44 (xs.drop i) := ⟨_, rfl⟩
  have hcl : cs.length = (cap - i) * 2 := by rw [hcs, enc44_len, List.length_drop, ← HN.out]
  have hcd : cs = (cur.toList.drop (i * 2)).take ((cap - i) * 2) := by
    rw [hcs, enc44_drop, ← HPRE.out, List.drop_take]
    congr 1
    omega
  have hfit : (i + 1) * 2 + cs.length ≤ cur3.size := by rw [hcl, HS3.out, HS2.out]; omega
  have hcp2 := fun ty : TypeId => run_copy2 W6.drew ty g2 ((i + 1) * 2) (cap - i) (gc - (i + 1)) (cap - i) (cap - i) (cap - i) ⟨g, i * 2, none⟩ cs cur3 (Nat.min_self _) hcl (fun j v hj => cell_at HG6.out (i * 2) j v (by
      rw [hcd, List.getElem?_take] at hj
      split at hj
      · exact hj
      · cases hj)) HBK6.out hfit (by rw [hcs]; exact enc44_one _)
  have HCS := Aside0.mk hcs
  have HCL := Aside0.mk hcl
  have HFIT := Aside0.mk hfit
  clear hcs hcl hcd hfit
  go_region
  go_wp2_with fail
  go_ret
  obtain ⟨cur4, hg4, hs4, hl4⟩ := setCells_row (e := 44) cs ((i + 1) * 2) W6.drew cur3 HBK6.out HFIT.out
  have hxl : (xs.take i ++ s :: xs.drop i).length = cap + 1 := by rw [List.length_append, List.length_cons, List.length_take, List.length_drop, ← HN.out]; omega
  have hcs2 : cur4.toList.take ((cap + 1) * 2) = enc44 (xs.take i ++ s :: xs.drop i) := by
    have e1 : enc44 (xs.take i ++ s :: xs.drop i) = enc44 (xs.take i) ++ [.int .i64 s.f0, .int .i64 s.f1] ++ cs := by
      rw [enc44_app, List.append_assoc]
      congr 1
      show [Value.int .i64 s.f0, .int .i64 s.f1] ++ enc44 (xs.drop i) = _
      rw [HCS.out]
    have hc2l : cur2.toList.length = gc * 2 := by rw [Array.length_toList, HS2.out]
    have hel : (enc44 (xs.take i)).length = i * 2 := by rw [enc44_len, List.length_take, ← HN.out]; omega
    have t1 : cur3.toList.take ((i + 1) * 2) = enc44 (xs.take i) ++ [.int .i64 s.f0, .int .i64 s.f1] := by
      rw [HL3.out, HT2.out]
      have : (enc44 (xs.take i) ++ [Value.int .i64 s.f0, .int .i64 s.f1]).length = (i + 1) * 2 := by rw [List.length_append, hel]; simp; omega
      rw [← this]
      exact List.take_left
    rw [hl4, t1, e1]
    have hl1 : (enc44 (xs.take i) ++ [Value.int .i64 s.f0, .int .i64 s.f1] ++ cs).length = (cap + 1) * 2 := by
      rw [List.length_append, List.length_append, hel, HCL.out]
      simp
      omega
    rw [← hl1]
    exact List.take_left
  have hbg2 : base ≤ g2 := by rw [HG2.out]; exact HBS.out
  refine ⟨_, rfl, ?_, ?_, .inr ⟨g2, rfl, by rw [HG2.out]; exact Nat.le_refl _⟩⟩
  · have := R44_of (base := base) (g := g2) (cap := gc) (xs := xs.take i ++ s :: xs.drop i) (cur := cur4) hbg2 hg4 (by rw [hxl]; omega) HGC2.out (by rw [hs4, HS3.out, HS2.out]) (by rw [hxl]; exact hcs2)
    rw [hxl] at this
    exact this
  · obtain ⟨h1, h2, h3, h4⟩ := setCells_same g2 cs ((i + 1) * 2) W6.drew
    exact grown_of_below (⟨h1.trans HB6.out.os, h2.trans HB6.out.tape, h3.trans HB6.out.output, Nat.le_trans HB6.out.size (Nat.le_of_eq h4.symm), fun k hk => (setCells_far _ _ k (by rw [HG2.out]; exact Nat.ne_of_lt hk)).trans (HB6.out.block k hk)⟩) _
theorem Insert.calls (base : Nat) (W : World) (A : Option Addr) (cap : Nat) (xs : List S44) (i : Nat) (s : S44) (vb : Nat) (hR : k44.R 44 W base (fun _ => True) (.slice A xs.length cap) xs) (hv : W.heap[vb]? = some (.cells #[.int .i64 s.f0, .int .i64 s.f1] 44 (0, 0))) (hne : some vb ≠ (Value.slice A xs.length cap).ownBlock) (hbase : base ≤ W.heap.size) (hi : i ≤ xs.length) (hl : xs.length ≤ 1099511627776) :
    Calls Try.prog 139 #[.slice A xs.length cap, .int .i64 (i : Nat), .slice (some ⟨vb, 0, none⟩) 1 1] W fun e w' => Ins.Post base W (.slice A xs.length cap) (xs.take i ++ s :: xs.drop i) e w' := by
  rcases Nat.lt_or_ge i xs.length with h | h
  · rcases Nat.lt_or_ge cap (xs.length + 1) with h2 | h2
    · exact Insert.grow base W A cap xs i s vb hR hv hbase h h2 hl
    · exact Insert.shift base W A cap xs i s vb hR hv hne h h2 hl
  · obtain rfl : i = xs.length := by omega
    have := Insert.atEnd base W A cap xs s vb hR hv hbase hl
    rw [List.take_length, List.drop_length]
    exact this
end
end Go.Proofs.Ytcgocdhffcnleaa.PHead

/- A part of the proofs about the head: see the theorems' own lines. -/
namespace Go.Proofs.Ytcgocdhffcnleaa.PHead
open Go Go.RowKit Go.Proofs.YtcgocdhffcnleaaW.PrintWords Go.Proofs.YtcgocdhffcnleaaW.PrintLast Go.Proofs.YtcgocdhffcnleaaW.PrintMore Go.Proofs.Ytcgocdhffcnleaa.XB Go.Proofs.Ytcgocdhffcnleaa.PHeadPlays Go.Proofs.Ytcgocdhffcnleaa.XH
set_option linter.unusedVariables false
set_option linter.unusedSimpArgs false
/-! ### a series set in the head -/
namespace Hd
open Go.Maps
def setE : List Ent → Ent → List Ent
  | [], e => [e]
  | a :: S, e => if lcl a.ls e.ls = 0 then e :: S else if lcl e.ls a.ls < 0 then e :: a :: S else a :: setE S e
theorem abs_setE : ∀ (S : List Ent) (e : Ent), abs (setE S e) = setA (abs S) e.ls e.xs
  | [], e => rfl
  | a :: S, e => by
    show abs (if lcl a.ls e.ls = 0 then e :: S else if lcl e.ls a.ls < 0 then e :: a :: S else a :: setE S e) = (if lcl a.ls e.ls = 0 then (e.ls, e.xs) :: abs S else if lcl e.ls a.ls < 0 then (e.ls, e.xs) :: (a.ls, a.xs) :: abs S else (a.ls, a.xs) :: setA (abs S) e.ls e.xs)
    split
    · rfl
    · split
      · rfl
      · show (a.ls, a.xs) :: abs (setE S e) = _
        rw [abs_setE S e]
theorem setE_self : ∀ (S : List Ent) (e : Ent), e ∈ setE S e
  | [], e => List.mem_cons_self
  | a :: S, e => by
    rw [setE]
    split
    · exact List.mem_cons_self
    · split
      · exact List.mem_cons_self
      · exact List.mem_cons_of_mem _ (setE_self S e)
def esorted (S : List Ent) : Prop := S.Pairwise fun a b => lcl a.ls b.ls < 0
theorem esorted_of {S : List Ent} (h : sorted (abs S)) : esorted S := by
  unfold sorted abs at h
  rw [List.pairwise_map] at h
  exact h
theorem setE_mem {S : List Ent} (hs : esorted S) {e x : Ent} (h : x ∈ setE S e) : x = e ∨ (x ∈ S ∧ x.ls ≠ e.ls) := by
  induction S with
  | nil => left; simpa [setE] using h
  | cons a S ih =>
    obtain ⟨h1, h2⟩ := List.pairwise_cons.1 hs
    rw [setE] at h
    split at h
    · rename_i h3
      have he := lcl_zero.1 h3
      rcases List.mem_cons.1 h with h | h
      · exact .inl h
      · refine .inr ⟨List.mem_cons_of_mem _ h, fun e2 => ?_⟩
        have := h1 x h
        rw [he, e2, lcl_self] at this
        omega
    · rename_i h3
      split at h
      · rename_i h4
        rcases List.mem_cons.1 h with h | h
        · exact .inl h
        · refine .inr ⟨h, fun e2 => ?_⟩
          rcases List.mem_cons.1 h with rfl | h
          · exact h3 (by rw [e2, lcl_self])
          · have := lcl_tr h4 (h1 x h)
            rw [e2, lcl_self] at this
            omega
      · rename_i h4
        rcases List.mem_cons.1 h with rfl | h
        · exact .inr ⟨List.mem_cons_self, fun e2 => h3 (by rw [e2, lcl_self])⟩
        · rcases ih h2 h with h | ⟨h, h5⟩
          · exact .inl h
          · exact .inr ⟨List.mem_cons_of_mem _ h, h5⟩
theorem setE_old {S : List Ent} {e x : Ent} (h : x ∈ S) (hne : x.ls ≠ e.ls) : x ∈ setE S e := by
  induction S with
  | nil => cases h
  | cons a S ih =>
    rw [setE]
    split
    · rename_i h3
      rcases List.mem_cons.1 h with rfl | h
      · exact absurd (lcl_zero.1 h3) hne
      · exact List.mem_cons_of_mem _ h
    · split
      · exact List.mem_cons_of_mem _ h
      · rcases List.mem_cons.1 h with rfl | h
        · exact List.mem_cons_self
        · exact List.mem_cons_of_mem _ (ih h)
theorem setE_pair {R : Ent → Ent → Prop} (hsym : ∀ a b, R a b → R b a) {S : List Ent} (hs : esorted S) {e : Ent} (h : S.Pairwise R) (he : ∀ x ∈ S, x.ls ≠ e.ls → R x e) : (setE S e).Pairwise R := by
  induction S with
  | nil => exact List.pairwise_singleton _ _
  | cons a S ih =>
    obtain ⟨h1, h2⟩ := List.pairwise_cons.1 h
    obtain ⟨k1, k2⟩ := List.pairwise_cons.1 hs
    have hne : ∀ x ∈ S, lcl a.ls e.ls = 0 → x.ls ≠ e.ls := fun x hx h3 e2 => by
      have := k1 x hx
      rw [lcl_zero.1 h3, e2, lcl_self] at this
      omega
    rw [setE]
    split
    · rename_i h3
      exact List.pairwise_cons.2 ⟨fun x hx => hsym _ _ (he x (List.mem_cons_of_mem _ hx) (hne x hx h3)), h2⟩
    · rename_i h3
      split
      · rename_i h4
        refine List.pairwise_cons.2 ⟨fun x hx => hsym _ _ (he x hx (fun e2 => ?_)), h⟩
        rcases List.mem_cons.1 hx with rfl | hx
        · exact h3 (by rw [e2, lcl_self])
        · have := lcl_tr h4 (k1 x hx)
          rw [e2, lcl_self] at this
          omega
      · rename_i h4
        refine List.pairwise_cons.2 ⟨fun x hx => ?_, ih k2 h2 (fun x hx => he x (List.mem_cons_of_mem _ hx))⟩
        rcases setE_mem k2 hx with rfl | ⟨hx, _⟩
        · exact he a List.mem_cons_self (fun e2 => h3 (by rw [e2, lcl_self]))
        · exact h1 x hx
theorem setE_len {S : List Ent} (hs : sorted (abs S)) (e : Ent) : (setE S e).length = if find (abs S) e.ls = none then S.length + 1 else S.length := by
  have h := setA_len (m := e.ls) (xs := e.xs) hs
  rw [← abs_setE] at h
  unfold abs at h ⊢
  rw [List.length_map, List.length_map] at h
  exact h
theorem pair_of {α : Type} {R : α → α → Prop} (hsym : ∀ a b, R a b → R b a) : ∀ {S : List α}, S.Pairwise R → ∀ {x y : α}, x ∈ S → y ∈ S → x ≠ y → R x y
  | [], _, _, _, hx, _, _ => by cases hx
  | c :: S, hp, x, y, hx, hy, hne => by
    obtain ⟨p1, p2⟩ := List.pairwise_cons.1 hp
    rcases List.mem_cons.1 hx with h1 | h1
    · rcases List.mem_cons.1 hy with h2 | h2
      · exact absurd (h1.trans h2.symm) hne
      · rw [h1]; exact p1 y h2
    · rcases List.mem_cons.1 hy with h2 | h2
      · rw [h2]; exact hsym _ _ (p1 x h1)
      · exact pair_of hsym p2 h1 h2 hne
def apartR (a b : Ent) : Prop := a.g ≠ b.g ∧ ∀ k, a.sv.ownBlock = some k → b.sv.ownBlock ≠ some k
theorem apart_sym (a b : Ent) (h : apartR a b) : apartR b a := ⟨Ne.symm h.1, fun k hb ha => h.2 k ha hb⟩
theorem find_ent_some {S : List Ent} (hs : sorted (abs S)) {e : Ent} (h : e ∈ S) : find (abs S) e.ls = some e.xs :=
  find_of_mem (p := (e.ls, e.xs)) hs (List.mem_map_of_mem h)
/-- What types an entry's blocks have. -/
theorem EntOk.lv_type {base : Nat} {W : World} {e : Ent} (h : EntOk base W e) {k : Nat} (hk : e.lv.ownBlock = some k) : ∃ cs, W.heap[k]? = some (.cells cs 53 (0, 0)) := by
  obtain ⟨inner, ho⟩ := Kd.R_own h.lab
  exact own_typed ho k hk
theorem EntOk.sv_type {base : Nat} {W : World} {e : Ent} (h : EntOk base W e) {k : Nat} (hk : e.sv.ownBlock = some k) : ∃ cs, W.heap[k]? = some (.cells cs 44 (0, 0)) := by
  obtain ⟨inner, ho⟩ := Kd.R_own h.sam
  exact own_typed ho k hk
theorem type_ne {W : World} {k t t' : Nat} {cs cs' : Array Value} (h : W.heap[k]? = some (.cells cs t (0, 0))) (h' : W.heap[k]? = some (.cells cs' t' (0, 0))) : t = t' := by
  rw [h] at h'
  injection h' with h'
  injection h'
/-- A series that is there has other samples now. -/
theorem HR.update {base hb mb : Nat} {win : Int} {S : List Ent} {W W' : World} (h : HR base hb mb win S W) {e : Ent} (he : e ∈ S) {xs' : List S44} {sv' : Value}
    (hg : W'.heap[e.g]? = some (.cells #[e.lv, sv'] 120 (0, 0))) (hsv : k44.R 44 W' base (fun _ => True) sv' xs')
    (hat : sv'.ownBlock = e.sv.ownBlock ∨ ∃ b, sv'.ownBlock = some b ∧ W.heap.size ≤ b)
    (hhd : W'.heap[hb]? = some (.cells #[.int .i64 win, .map (some mb), .int .i64 (cnt (setA (abs S) e.ls xs') : Nat)] 115 (0, 0)))
    (hk : ∀ k, Own hb mb S k → k ≠ e.g → k ≠ hb → e.sv.ownBlock ≠ some k → W'.heap[k]? = W.heap[k]?) (hok : Ok (setA (abs S) e.ls xs')) :
    HR base hb mb win (setE S ⟨e.ls, xs', e.g, e.lv, sv'⟩) W' := by
  have hes := esorted_of h.ok.sorted
  have hee := h.ent e he
  have habs : abs (setE S ⟨e.ls, xs', e.g, e.lv, sv'⟩) = setA (abs S) e.ls xs' := abs_setE S _
  have hother : ∀ x ∈ S, x.ls ≠ e.ls → EntOk base W' x := by
    intro x hx hne
    have hxe := h.ent x hx
    have hap : apartR x e := pair_of apart_sym h.apart hx he (fun e2 => hne (by rw [e2]))
    refine hxe.move (fun k hkk => hk k (.inr (.inr ⟨x, hx, hkk⟩)) ?_ ?_ ?_)
    · rintro rfl
      rcases hkk with h1 | h1 | h1
      · exact hap.1 h1.symm
      · obtain ⟨cs, h2⟩ := hxe.lv_type h1
        exact absurd (type_ne hee.blk h2) (by decide)
      · obtain ⟨cs, h2⟩ := hxe.sv_type h1
        exact absurd (type_ne hee.blk h2) (by decide)
    · rintro rfl
      rcases hkk with h1 | h1 | h1
      · have := hxe.blk
        rw [← h1] at this
        exact absurd (type_ne h.head this) (by decide)
      · obtain ⟨cs, h2⟩ := hxe.lv_type h1
        exact absurd (type_ne h.head h2) (by decide)
      · obtain ⟨cs, h2⟩ := hxe.sv_type h1
        exact absurd (type_ne h.head h2) (by decide)
    · intro hs
      obtain ⟨cs, h3⟩ := hee.sv_type hs
      rcases hkk with h1 | h1 | h1
      · have := hxe.blk
        rw [← h1] at this
        exact absurd (type_ne h3 this) (by decide)
      · obtain ⟨cs, h2⟩ := hxe.lv_type h1
        exact absurd (type_ne h3 h2) (by decide)
      · exact hap.2 k h1 hs
  have hlab : k53.R 53 W' base (fun _ => True) e.lv e.ls := R53_move hee.lab (fun k h1 => hk k (.inr (.inr ⟨e, he, .inr (.inl h1)⟩)) (by
      rintro rfl
      obtain ⟨cs, h2⟩ := hee.lv_type h1
      exact absurd (type_ne hee.blk h2) (by decide)) (by
      rintro rfl
      obtain ⟨cs, h2⟩ := hee.lv_type h1
      exact absurd (type_ne h.head h2) (by decide)) (by
      intro hs
      obtain ⟨cs, h2⟩ := hee.lv_type h1
      obtain ⟨cs', h3⟩ := hee.sv_type hs
      exact absurd (type_ne h3 h2) (by decide)))
  refine ⟨h.lo, h.wok, by rw [habs]; exact hhd, ?_, fun x hx => ?_, ?_, by rw [habs]; exact hok⟩
  · obtain ⟨D, hm, hD⟩ := h.map
    have hmb : W'.heap[mb]? = W.heap[mb]? := by
      obtain ⟨es, ck, hb1, _⟩ := hm
      refine hk mb (.inr (.inl rfl)) ?_ ?_ ?_
      · rintro rfl
        have := hee.blk
        rw [hb1] at this
        cases this
      · rintro rfl
        have := h.head
        rw [hb1] at this
        cases this
      · intro hs
        obtain ⟨cs', h3⟩ := hee.sv_type hs
        rw [hb1] at h3
        cases h3
    have hlen : (setE S ⟨e.ls, xs', e.g, e.lv, sv'⟩).length = S.length := by
      rw [setE_len h.ok.sorted, find_ent_some h.ok.sorted he, if_neg (by simp)]
    refine ⟨D, ?_, ⟨fun x hx => ?_, by rw [hlen]; exact hD.size, fun kl hkl => ?_⟩⟩
    · obtain ⟨es, ck, hb1, r⟩ := hm
      rw [hlen]
      exact ⟨es, ck, hmb.trans hb1, r⟩
    · rcases setE_mem hes hx with rfl | ⟨hx, _⟩
      · exact hD.hit e he
      · exact hD.hit x hx
    · obtain ⟨x, hx, hxk⟩ := hD.keys kl hkl
      by_cases hne : x.ls = e.ls
      · exact ⟨_, setE_self S _, by rw [hxk, hne]⟩
      · exact ⟨x, setE_old hx hne, hxk⟩
  · rcases setE_mem hes hx with rfl | ⟨hx, hne⟩
    · exact ⟨hee.lo, hg, hlab, hsv⟩
    · exact hother x hx hne
  · refine setE_pair (fun a b h => ⟨Ne.symm h.1, fun k hb ha => h.2 k ha hb⟩) hes h.apart (fun x hx hne => ?_)
    have hxe := h.ent x hx
    have hap : apartR x e := pair_of apart_sym h.apart hx he (fun e2 => hne (by rw [e2]))
    refine ⟨hap.1, fun k hk1 hk2 => ?_⟩
    rcases hat with h1 | ⟨b, h1, h2⟩
    · rw [h1] at hk2
      exact hap.2 k hk1 hk2
    · have hk2' : some b = some k := h1.symm.trans hk2
      injection hk2' with hk2'
      have := (hxe.lt k (.inr (.inr hk1))).2
      omega
theorem MapIs.put {D : DataW Unit} {S : List Ent} (h : MapIs D S) (hs : sorted (abs S)) (hmd : ∀ x ∈ S, Hl.made x.ls) (ht : Maps.Tidy D) {e : Ent} (hm : Hl.made e.ls) (hf : find (abs S) e.ls = none) : MapIs (D.put (key e.ls) (.lit (.int .i64 e.g))) (setE S e) := by
  have hes := esorted_of hs
  have hne : ∀ x ∈ S, key x.ls ≠ key e.ls := fun x hx h2 => find_ent_none hf x hx (key_inj (hmd x hx) hm h2)
  have hno : Maps.has D (key e.ls) = false := by
    cases hh : Maps.has D (key e.ls) with
    | false => rfl
    | true =>
      obtain ⟨x, hx, h2⟩ := h.keys _ hh
      exact absurd h2.symm (hne x hx)
  refine ⟨fun x hx => ?_, ?_, fun kl hkl => ?_⟩
  · rcases setE_mem hes hx with rfl | ⟨hx, _⟩
    · exact ⟨Maps.has_put_same ht.isMap (key_isKey _) _, fun z => Maps.atKey_put_same ht.isMap (key_isKey _) _ z⟩
    · rw [Maps.has_put_other (hne x hx)]
      exact ⟨(h.hit x hx).1, fun z => by rw [Maps.atKey_put_other (hne x hx)]; exact (h.hit x hx).2 z⟩
  · rw [Maps.size_put ht, hno, if_neg (by simp), h.size, setE_len hs, hf, if_pos rfl]
  · by_cases hk : kl = key e.ls
    · exact ⟨e, setE_self S e, hk⟩
    · rw [Maps.has_put_other hk] at hkl
      obtain ⟨x, hx, h2⟩ := h.keys kl hkl
      exact ⟨x, setE_old hx (find_ent_none hf x hx), h2⟩
/-- A series that was not there. -/
theorem HR.insert {base hb mb : Nat} {win : Int} {S : List Ent} {W W' : World} (h : HR base hb mb win S W) {e : Ent} (hf : find (abs S) e.ls = none) (hm : Hl.made e.ls)
    (hmap : ∀ D, W.ownsMap Try.prog 9 RP mb S.length D → W'.ownsMap Try.prog 9 RP mb (S.length + 1) (D.put (key e.ls) (.lit (.int .i64 e.g)))) (he : EntOk base W' e)
    (hge : W.heap.size ≤ e.g) (hse : ∀ k, e.sv.ownBlock = some k → W.heap.size ≤ k)
    (hhd : W'.heap[hb]? = some (.cells #[.int .i64 win, .map (some mb), .int .i64 (cnt (setA (abs S) e.ls e.xs) : Nat)] 115 (0, 0)))
    (hk : ∀ k, Own hb mb S k → k ≠ hb → k ≠ mb → W'.heap[k]? = W.heap[k]?) (hok : Ok (setA (abs S) e.ls e.xs)) : HR base hb mb win (setE S e) W' := by
  have hes := esorted_of h.ok.sorted
  have habs : abs (setE S e) = setA (abs S) e.ls e.xs := abs_setE S _
  have hmbt : ∀ (cs : Array Value) (t : TypeId), W.heap[mb]? ≠ some (.cells cs t (0, 0)) := by
    intro cs t h2
    obtain ⟨D, ⟨es, ck, hb1, _⟩, _⟩ := h.map
    rw [hb1] at h2
    cases h2
  refine ⟨h.lo, h.wok, by rw [habs]; exact hhd, ?_, fun x hx => ?_, ?_, by rw [habs]; exact hok⟩
  · obtain ⟨D, hm2, hD⟩ := h.map
    refine ⟨_, ?_, hD.put h.ok.sorted (fun x hx => made_of h hx) (hm2.tidy law9) hm hf⟩
    rw [setE_len h.ok.sorted, hf, if_pos rfl]
    exact hmap D hm2
  · rcases setE_mem hes hx with rfl | ⟨hx, hne⟩
    · exact he
    · have hxe := h.ent x hx
      refine hxe.move (fun k hkk => hk k (.inr (.inr ⟨x, hx, hkk⟩)) ?_ ?_)
      · rintro rfl
        rcases hkk with h1 | h1 | h1
        · have := hxe.blk
          rw [← h1] at this
          exact absurd (type_ne h.head this) (by decide)
        · obtain ⟨cs, h2⟩ := hxe.lv_type h1
          exact absurd (type_ne h.head h2) (by decide)
        · obtain ⟨cs, h2⟩ := hxe.sv_type h1
          exact absurd (type_ne h.head h2) (by decide)
      · rintro rfl
        rcases hkk with h1 | h1 | h1
        · have := hxe.blk
          rw [← h1] at this
          exact hmbt _ _ this
        · obtain ⟨cs, h2⟩ := hxe.lv_type h1
          exact hmbt _ _ h2
        · obtain ⟨cs, h2⟩ := hxe.sv_type h1
          exact hmbt _ _ h2
  · refine setE_pair apart_sym hes h.apart (fun x hx hne => ?_)
    have hxe := h.ent x hx
    refine ⟨fun h2 => ?_, fun k hk1 hk2 => ?_⟩
    · have := (hxe.lt _ (.inl rfl)).2
      omega
    · have h1 := (hxe.lt k (.inr (.inr hk1))).2
      have h2 := hse k hk2
      omega
theorem cnt_setA {L : A} {m : List S53} {xs : List S44} (hs : sorted L) : cnt (setA L m xs) + ((find L m).getD []).length = cnt L + xs.length := by
  induction L with
  | nil => simp [setA, cnt, find]
  | cons q L ih =>
    obtain ⟨h1, h2⟩ := List.pairwise_cons.1 hs
    rw [setA]
    split
    · rename_i h3
      rw [find, if_pos h3]
      simp [cnt]
      omega
    · rename_i h3
      split
      · rename_i h4
        have hn : find (q :: L) m = none := find_none.2 (fun p hp e => by
          rcases List.mem_cons.1 hp with h5 | h5
          · exact h3 (lcl_zero.2 (by rw [← h5]; exact e))
          · have := h1 p h5
            rw [e] at this
            have := lcl_tr h4 this
            rw [lcl_self] at this
            omega)
        rw [hn]
        simp [cnt]
        omega
      · rw [find, if_neg h3]
        have := ih h2
        simp only [cnt, List.map_cons, List.sum_cons] at this ⊢
        omega
end Hd
end Go.Proofs.Ytcgocdhffcnleaa.PHead

/- A part of the proofs about the head: see the theorems' own lines. -/
namespace Go.Proofs.Ytcgocdhffcnleaa.PHead
open Go Go.RowKit Go.Proofs.YtcgocdhffcnleaaW.PrintWords Go.Proofs.YtcgocdhffcnleaaW.PrintLast Go.Proofs.YtcgocdhffcnleaaW.PrintMore Go.Proofs.Ytcgocdhffcnleaa.XB Go.Proofs.Ytcgocdhffcnleaa.PHeadPlays Go.Proofs.Ytcgocdhffcnleaa.XH
set_option linter.unusedVariables false
set_option linter.unusedSimpArgs false
/-! ### put -/
section
open Go.Maps
theorem R44_set {W : World} {base g n cap : Nat} {xs : List S44} (h : k44.R 44 W base (fun _ => True) (.slice (some ⟨g, 0, none⟩) n cap) xs) (j : Nat) (hj : j < xs.length) (y : S44) :
    k44.R 44 ((W.setCell ⟨g, j * 2, none⟩ (.int .i64 y.f0)).setCell ⟨g, j * 2 + 1, none⟩ (.int .i64 y.f1)) base (fun _ => True) (.slice (some ⟨g, 0, none⟩) n cap) (xs.set j y) := by
  obtain ⟨hn, _, hb, cur, hh, hs, hc⟩ := R44_cells h
  obtain ⟨x0, x1⟩ := hc j xs[j] (List.getElem?_eq_getElem hj)
  have hcc : ∀ q u, [Value.int .i64 xs[j].f0, Value.int .i64 xs[j].f1][q]? = some u → W.cell? ⟨g, (j : Int).toNat * k44.sz + q, none⟩ = some u := by
    intro q u hu
    rw [Int.toNat_natCast]
    match q with
    | 0 => rw [← hu]; exact x0
    | 1 => rw [← hu]; exact x1
    | q + 2 => simp at hu
  have := Kd.R_seg (okp := fun _ => False) (j := 0) (seg := [.int .i64 y.f0, .int .i64 y.f1]) (x' := y) h (j : Int) (by omega) (by omega) (c := [.int .i64 xs[j].f0, .int .i64 xs[j].f1]) rfl hcc (Nat.le_refl 2) (k44_mkM _ _ _ y) (fun _ h => h.elim)
  rw [Int.toNat_natCast] at this
  exact this.1
def head_put.Post (base hb mb : Nat) (win : Int) (S : List Hd.Ent) (m : List S53) (lv : Value) (s : S44) (W : World) (e : Ending) (w' : World) : Prop :=
  e = .returned (.tuple #[]) ∧ ∃ S', Hd.HR base hb mb win S' w' ∧ Hd.abs S' = Hd.putL (Hd.abs S) m s ∧ Hd.Fr (fun k => Hd.Own hb mb S k ∨ lv.ownBlock = some k) (Hd.Own hb mb S') W w'
set_option maxHeartbeats 8000000 in
set_option maxRecDepth 100000 in
theorem head_put.over (base hb mb : Nat) (win : Int) (S : List Hd.Ent) (Am : Option Addr) (cm : Nat) (m : List S53) (s : S44) (W : World) (hH : Hd.HR base hb mb win S W) (hm : Hl.made m) (hR : k53.R 53 W base (fun _ => True) (.slice Am m.length cm) m)
    (hok : Hd.Ok (Hd.putL (Hd.abs S) m s)) (e : Hd.Ent) (he : e ∈ S) (hel : e.ls = m) (hl : e.xs.length ≤ 1099511627776) (hth : Hd.there e.xs s.f0 = true) :
    Calls Try.prog 115 #[.pointer (some ⟨hb, 0, none⟩), .slice Am m.length cm, .agg #[.int .i64 s.f0, .int .i64 s.f1]] W fun e' w' => head_put.Post base hb mb win S m (.slice Am m.length cm) s W e' w' := by
  have HH := Aside0.mk hH
  have HTX := Aside0.mk (fun W' (hb : Below W.heap.size W W') => labels_Text.calls Am cm m W' (Kd.C_below (Kd.R_reads' hR).2.2 hb) (Kd.R_reads' hR).2.1)
  have HE := Aside0.mk he
  have HEL := Aside0.mk hel
  have HM := Aside0.mk hm
  have HKY := Aside0.mk (Hd.keyOf_txt hm)
  have HTH := Aside0.mk hth
  have HOK := Aside0.mk hok
  have HLX := Aside0.mk hl
  obtain ⟨ml, hml⟩ : ∃ ml, ml = m.length := ⟨_, rfl⟩
  obtain ⟨t, ht⟩ : ∃ t, t = s.f0 := ⟨_, rfl⟩
  obtain ⟨v, hv⟩ : ∃ v, v = s.f1 := ⟨_, rfl⟩
  have HT := Aside0.mk ht
  have HV := Aside0.mk hv
  have HML := Aside0.mk hml
  rw [← hml] at HTX
  rw [← hml, ← ht, ← hv]
  clear hH hm hR hok he hel hl hth hml ht hv
  go_enter Try.func115, Try.ntmps115
  go_upto_region 1 with fail
  refine cwp_world ?_
  intro W1 hW1
  obtain ⟨bx, hbx⟩ : ∃ g, g = W.heap.size := ⟨_, rfl⟩
  have HX1 := Aside0.mk (show W1.heap[bx]? = some (.cells #[.int .i64 t, .int .i64 v] 44 (0, 0)) by rw [hW1, hbx]; exact blk_new _ _)
  have hb1 : Below W.heap.size W W1 := by rw [hW1]; exact below_alloc (Below.refl _ _) _
  have HB1 := Aside0.mk hb1
  have HT1 := Aside0.mk (HTX.out W1 hb1)
  have HBX := Aside0.mk hbx
  rw [← hbx]
  clear hW1 hbx hb1 HTX
  go_upto_region 2 with (go_at_call 62; (with_reducible refine HT1.out.mono ?_); rintro e2 W4 ⟨rfl, hb2⟩; have HX4 := Aside0.mk (blk_below HX1.out hb2); have HB4 := Aside0.mk (below_step HB1.out hb2); clear hb2)
  have HH4 := Aside0.mk (HH.out.below HB4.out)
  have hlook := HH4.out.look_hit HE.out (s := Hl.txt m) (by rw [HEL.out]; exact HKY.out)
  have b1 := (blk_cell HH4.out.head 1).trans (show (#[.int .i64 win, .map (some mb), .int .i64 (Hd.cnt (Hd.abs S) : Nat)] : Array Value)[1]? = some (.map (some mb)) from rfl)
  have HEN4 := Aside0.mk (HH4.out.ent e HE.out)
  have hxne := Hd.ne_of HH4.out HE.out
  have HRI := Aside0.mk (HH4.out.ok.rise (e.ls, e.xs) (List.mem_map_of_mem HE.out))
  obtain ⟨els, xs, eg, elv, esv⟩ := e
  dsimp only at hlook HRI HTH HLX hxne HEL
  obtain ⟨gs, cs, hsv, hgs, _, _⟩ := Kd.R_form HEN4.out.sam (List.length_pos_iff.2 hxne)
  dsimp only at hsv
  subst hsv
  obtain ⟨n, hn⟩ : ∃ n, n = xs.length := ⟨_, rfl⟩
  have HN := Aside0.mk hn
  have HS4 := Aside0.mk HEN4.out.sam
  have HG4 := Aside0.mk HEN4.out.blk
  dsimp only at HS4 HG4
  rw [← hn] at HS4 HG4
  obtain ⟨As, hAs⟩ : ∃ As : Option Addr, As = some ⟨gs, 0, none⟩ := ⟨_, rfl⟩
  rw [← hAs] at HS4 HG4
  have HAS := Aside0.mk hAs
  have HSE := Aside0.mk (fun W (hb : Below W4.heap.size W4 W) => by
    have h1 := Kd.C_below (Kd.R_reads' HS4.out).2.2 hb
    have h2 := head_search.calls As cs xs t W h1 HRI.out (by have := HLX.out; omega)
    rw [← hn] at h2
    exact h2)
  obtain ⟨p, hp⟩ : ∃ p, p = Hd.pos xs t := ⟨_, rfl⟩
  have HP := Aside0.mk hp
  have HTHT := Aside0.mk (show Hd.there xs t = true by rw [HT.out]; exact HTH.out)
  rw [← hp, HTHT.out] at HSE
  clear HT1 hgs hn hp hAs hxne
  go_upto_region 7 with fail
  clear hlook b1
  have HBD := Aside0.mk (below_drew1 (Below.refl W4.heap.size W4))
  refine start_ (n := 13) (S := fun w' => w'.cell? ⟨eg, 1, none⟩ = some (.slice As n cs) ∧ w'.cell? ⟨bx, 0, none⟩ = some (.int .i64 t)) (ds := []) #[false, false, false, false, false, false, false, false, false, false, false, false, false] (by kernel_rfl) rfl rfl ⟨(blk_cell HG4.out 1).trans rfl, (blk_cell HX4.out 0).trans rfl⟩ (fun hHeld => ?_)
  generalize W4.drew = WD at HBD hHeld ⊢
  refine pure_ (i := 0) (N := (some 31)) (v := ?_) (a' := ?_) #[true, false, false, false, false, false, false, false, false, false, false, false, false] rfl rfl (by kernel_rfl) (fun _ _ _ h => h) (Or.inl ⟨by rfl, ?_⟩) ?_ ?_
  rotate_left
  · intro w'
    go_simp
    with_reducible rfl
  rotate_left
  · simp only [Act.put, List.setIfInBounds_toArray, List.set_cons_zero, List.set_cons_succ, i64_w, i32_w]
    rfl
  refine pure_ (i := 1) (N := (some 32)) (v := ?_) (a' := ?_) #[true, true, false, false, false, false, false, false, false, false, false, false, false] rfl rfl (by kernel_rfl) (fun _ _ _ h => h) (Or.inl ⟨by rfl, ?_⟩) ?_ ?_
  rotate_left
  · intro w'
    go_simp
    with_reducible rfl
  rotate_left
  · simp only [Act.put, List.setIfInBounds_toArray, List.set_cons_zero, List.set_cons_succ, i64_w, i32_w]
    rfl
  refine pure_ (i := 2) (N := (some 33)) (v := ?_) (a' := ?_) #[true, true, true, false, false, false, false, false, false, false, false, false, false] rfl rfl (by kernel_rfl) (fun _ _ _ h => h) (Or.inl ⟨by rfl, ?_⟩) ?_ ?_
  rotate_left
  · intro w'
    go_simp
    with_reducible rfl
  rotate_left
  · simp only [Act.put, List.setIfInBounds_toArray, List.set_cons_zero, List.set_cons_succ, i64_w, i32_w]
    rfl
  refine take_ (i := 3) (N := (some 34)) (v := ?_) (a' := ?_) #[true, true, true, true, false, false, false, false, false, false, false, false, false] rfl rfl (by kernel_rfl) (fun _ _ _ h => h) (Or.inl ⟨by rfl, ?_⟩) hHeld ?_ ?_
  rotate_left
  · rintro w' ⟨s0, s1⟩
    go_simp
    with_reducible rfl
  rotate_left
  · simp only [Act.put, List.setIfInBounds_toArray, List.set_cons_zero, List.set_cons_succ, i64_w, i32_w]
    rfl
  refine pure_ (i := 4) (N := (some 35)) (v := ?_) (a' := ?_) #[true, true, true, true, true, false, false, false, false, false, false, false, false] rfl rfl (by kernel_rfl) (fun _ _ _ h => h) (Or.inl ⟨by rfl, ?_⟩) ?_ ?_
  rotate_left
  · intro w'
    go_simp
    with_reducible rfl
  rotate_left
  · simp only [Act.put, List.setIfInBounds_toArray, List.set_cons_zero, List.set_cons_succ, i64_w, i32_w]
    rfl
  refine take_ (i := 5) (N := (some 36)) (v := ?_) (a' := ?_) #[true, true, true, true, true, true, false, false, false, false, false, false, false] rfl rfl (by kernel_rfl) (fun _ _ _ h => h) (Or.inl ⟨by rfl, ?_⟩) hHeld ?_ ?_
  rotate_left
  · rintro w' ⟨s0, s1⟩
    go_simp
    with_reducible rfl
  rotate_left
  · simp only [Act.put, List.setIfInBounds_toArray, List.set_cons_zero, List.set_cons_succ, i64_w, i32_w]
    rfl
  refine pure_ (i := 6) (N := (some 37)) (v := ?_) (a' := ?_) #[true, true, true, true, true, true, true, false, false, false, false, false, false] rfl rfl (by kernel_rfl) (fun _ _ _ h => h) (Or.inl ⟨by rfl, ?_⟩) ?_ ?_
  rotate_left
  · intro w'
    go_simp
    with_reducible rfl
  rotate_left
  · simp only [Act.put, List.setIfInBounds_toArray, List.set_cons_zero, List.set_cons_succ, i64_w, i32_w]
    rfl
  refine one_ (i := 7) (N := (some 38)) #[true, true, true, true, true, true, true, true, false, false, false, false, false] rfl rfl (by kernel_rfl) (by decide) (fun K hK => ?_)
  refine goes_ Try.func138 (by kernel_rfl) rfl #[.slice As n cs, .int .i64 t, .func (.func 137) #[] #[]] (by rfl) rfl rfl (by first | (simp; done) | ((try simp only [List.map_toArray, List.map_cons, List.map_nil]); first | done | rfl)) ?_
  (with_reducible refine (HSE.out _ HBD.out).mono ?_)
  rintro e W5 ⟨rfl, hb5⟩
  refine ⟨_, rfl, ?_⟩
  have HB5 := Aside0.mk (below_step HBD.out hb5)
  clear hb5 HBD
  refine hK.out _ _ ⟨(blk_cell (blk_below HG4.out HB5.out) 1).trans rfl, (blk_cell (blk_below HX4.out HB5.out) 0).trans rfl⟩ (fun hHeld => ?_)
  clear hK K
  refine norm_ (a' := ?_) ?_ ?_
  rotate_left
  · show Act.put _ (some 38) _ = _
    simp only [Act.put, List.setIfInBounds_toArray, List.set_cons_zero, List.set_cons_succ, i64_w, i32_w]
    rfl
  refine pure_ (i := 8) (N := (some 30)) (v := ?_) (a' := ?_) #[true, true, true, true, true, true, true, true, true, false, false, false, false] rfl rfl (by kernel_rfl) (fun _ _ _ h => h) (Or.inl ⟨by rfl, ?_⟩) ?_ ?_
  rotate_left
  · intro w'
    go_simp
    with_reducible rfl
  rotate_left
  · simp only [Act.put, List.setIfInBounds_toArray, List.set_cons_zero, List.set_cons_succ, i64_w, i32_w]
    rfl
  refine pure_ (i := 9) (N := (some 39)) (v := ?_) (a' := ?_) #[true, true, true, true, true, true, true, true, true, true, false, false, false] rfl rfl (by kernel_rfl) (fun _ _ _ h => h) (Or.inl ⟨by rfl, ?_⟩) ?_ ?_
  rotate_left
  · intro w'
    go_simp
    with_reducible rfl
  rotate_left
  · simp only [Act.put, List.setIfInBounds_toArray, List.set_cons_zero, List.set_cons_succ, i64_w, i32_w]
    rfl
  refine pure_ (i := 10) (N := (some 40)) (v := ?_) (a' := ?_) #[true, true, true, true, true, true, true, true, true, true, true, false, false] rfl rfl (by kernel_rfl) (fun _ _ _ h => h) (Or.inl ⟨by rfl, ?_⟩) ?_ ?_
  rotate_left
  · intro w'
    go_simp
    with_reducible rfl
  rotate_left
  · simp only [Act.put, List.setIfInBounds_toArray, List.set_cons_zero, List.set_cons_succ, i64_w, i32_w]
    rfl
  refine pure_ (i := 11) (N := (some 9)) (v := ?_) (a' := ?_) #[true, true, true, true, true, true, true, true, true, true, true, true, false] rfl rfl (by kernel_rfl) (fun _ _ _ h => h) (Or.inl ⟨by rfl, ?_⟩) ?_ ?_
  rotate_left
  · intro w'
    go_simp
    with_reducible rfl
  rotate_left
  · simp only [Act.put, List.setIfInBounds_toArray, List.set_cons_zero, List.set_cons_succ, i64_w, i32_w]
    rfl
  refine pure_ (i := 12) (N := (some 10)) (v := ?_) (a' := ?_) #[true, true, true, true, true, true, true, true, true, true, true, true, true] rfl rfl (by kernel_rfl) (fun _ _ _ h => h) (Or.inl ⟨by rfl, ?_⟩) ?_ ?_
  rotate_left
  · intro w'
    go_simp
    with_reducible rfl
  rotate_left
  · simp only [Act.put, List.setIfInBounds_toArray, List.set_cons_zero, List.set_cons_succ, i64_w, i32_w]
    rfl
  refine done_ (by kernel_rfl) ?_
  go_upto_region 9 with fail
  obtain rfl : As = some ⟨gs, 0, none⟩ := HAS.out
  have HG5 := Aside0.mk (blk_below HG4.out HB5.out)
  have HX5 := Aside0.mk (blk_below HX4.out HB5.out)
  have HS5 := Aside0.mk (Kd.R_below HS4.out HB5.out)
  obtain ⟨hnn, _, hbg, cur, hcur, hsz, hcc⟩ := R44_cells HS5.out
  have hpn : p < n := by
    have h1 := HTHT.out
    unfold Hd.there at h1
    rw [← HP.out] at h1
    rcases Nat.lt_or_ge p xs.length with h2 | h2
    · have := HN.out; omega
    · rw [List.getElem?_eq_none h2] at h1
      cases h1
  have hpz : (p : Int) < (n : Int) := by omega
  have hp0 : (0 : Int) ≤ (p : Int) := by omega
  obtain ⟨y0, y1, c1, f1, c2, f2⟩ := two_of (j := p * 2) hcur (by have := (R44_cells HS5.out).2.1; omega) (.int .i64 t)
  have HSS := Aside0.mk (R44_set HS5.out p (by have := HN.out; omega) s)
  rw [← HT.out, ← HV.out] at HSS
  have d0 : W5.drew.cell? ⟨eg, 1, none⟩ = some (.slice (some ⟨gs, 0, none⟩) n cs) := (blk_cell HG5.out 1).trans rfl
  have d1 : W5.drew.cell? ⟨bx, 0, none⟩ = some (.int .i64 t) := (blk_cell HX5.out 0).trans rfl
  have d2 : W5.drew.cell? ⟨bx, 1, none⟩ = some (.int .i64 v) := (blk_cell HX5.out 1).trans rfl
  have d3 : W5.drew.cell? ⟨gs, p * 2, none⟩ = some y0 := c1
  have d4 : W5.drew.frozen? ⟨gs, p * 2, none⟩ = false := f1
  have HCU := Aside0.mk hcur
  clear hcc hcur hsz hnn c1 f1 hHeld
  go_region
  go_wp2_with fail
  refine bodyPost_ret (results_none rfl _ _ _) rfl ?_
  have HH5 := HH4.out.below HB5.out
  have hfd : Hd.find (Hd.abs S) els = some xs := Hd.find_ent_some HH5.ok.sorted HE.out
  have hxs : Hd.putS xs s = xs.set p s := by rw [HP.out, HT.out]; exact Hd.putS_there HTH.out
  have hput : Hd.putL (Hd.abs S) m s = Hd.setA (Hd.abs S) els (xs.set p s) := by
    unfold Hd.putL
    rw [← HEL.out, hfd]
    show Hd.setA (Hd.abs S) els (Hd.putS xs s) = _
    rw [hxs]
  have hcnt : Hd.cnt (Hd.setA (Hd.abs S) els (xs.set p s)) = Hd.cnt (Hd.abs S) := by
    have := Hd.cnt_setA (L := Hd.abs S) (m := els) (xs := xs.set p s) HH5.ok.sorted
    rw [hfd] at this
    simp only [Option.getD_some, List.length_set] at this
    omega
  have hfar : ∀ k, k ≠ gs → ((W5.setCell ⟨gs, p * 2, none⟩ (.int .i64 t)).setCell ⟨gs, p * 2 + 1, none⟩ (.int .i64 v)).heap[k]? = W5.heap[k]? := fun k hk => (Below.heap_setCell _ ⟨gs, p * 2 + 1, none⟩ _ k hk).trans (Below.heap_setCell _ ⟨gs, p * 2, none⟩ _ k hk)
  have hge : eg ≠ gs := by
    rintro rfl
    exact absurd (Hd.type_ne HG5.out HCU.out) (by decide)
  have hgh : hb ≠ gs := by
    rintro rfl
    exact absurd (Hd.type_ne HH5.head HCU.out) (by decide)
  have hgB : W.heap.size ≤ W5.heap.size := Nat.le_trans HB4.out.size HB5.out.size
  refine ⟨rfl, Hd.setE S ⟨els, xs.set p s, eg, elv, .slice (some ⟨gs, 0, none⟩) n cs⟩, ?_, ?_, ?_⟩
  · refine HH5.update (W' := ((W5.setCell ⟨gs, p * 2, none⟩ (.int .i64 t)).setCell ⟨gs, p * 2 + 1, none⟩ (.int .i64 v)).drew) HE.out ((hfar eg hge).trans HG5.out) HSS.out (.inl ?_) ?_ ?_ ?_
    · show (Value.slice (some ⟨gs, 0, none⟩) n cs).ownBlock = _
      rfl
    · have h9 := (hfar hb hgh).trans HH5.head
      rw [← hcnt] at h9
      exact h9
    · intro k hk h1 h2 h3
      exact hfar k (fun h4 => h3 (by rw [h4]; rfl))
    · rw [← hput]
      exact HOK.out
  · rw [Hd.abs_setE]
    exact hput.symm
  · have hown : Hd.Own hb mb S gs := .inr (.inr ⟨_, HE.out, .inr (.inr rfl)⟩)
    have hbw : Below W.heap.size W W5 := below_step HB4.out HB5.out
    refine ⟨hbw.os, hbw.tape, hbw.output, Nat.le_trans hgB (Nat.le_of_eq (by simp [World.setCell, World.drew])), fun k hk hn => (hfar k (fun h4 => hn (.inl (by rw [h4]; exact hown)))).trans (hbw.block k hk), fun k hk => ?_⟩
    rcases hk with h1 | h1 | ⟨x, hx, h1⟩
    · exact .inl (.inl (.inl h1))
    · exact .inl (.inl (.inr (.inl h1)))
    · rcases Hd.setE_mem (Hd.esorted_of HH5.ok.sorted) hx with rfl | ⟨hx, _⟩
      · exact .inl (.inl (.inr (.inr ⟨_, HE.out, h1⟩)))
      · exact .inl (.inl (.inr (.inr ⟨x, hx, h1⟩)))
set_option maxHeartbeats 8000000 in
set_option maxRecDepth 100000 in
theorem head_put.add (base hb mb : Nat) (win : Int) (S : List Hd.Ent) (Am : Option Addr) (cm : Nat) (m : List S53) (s : S44) (W : World) (hH : Hd.HR base hb mb win S W) (hm : Hl.made m) (hR : k53.R 53 W base (fun _ => True) (.slice Am m.length cm) m)
    (hok : Hd.Ok (Hd.putL (Hd.abs S) m s)) (e : Hd.Ent) (he : e ∈ S) (hel : e.ls = m) (hl : e.xs.length ≤ 1099511627776) (hth : Hd.there e.xs s.f0 = false) (hct : Hd.cnt (Hd.abs S) ≤ 1099511627776) :
    Calls Try.prog 115 #[.pointer (some ⟨hb, 0, none⟩), .slice Am m.length cm, .agg #[.int .i64 s.f0, .int .i64 s.f1]] W fun e' w' => head_put.Post base hb mb win S m (.slice Am m.length cm) s W e' w' := by
  have HH := Aside0.mk hH
  have HTX := Aside0.mk (fun W' (hb : Below W.heap.size W W') => labels_Text.calls Am cm m W' (Kd.C_below (Kd.R_reads' hR).2.2 hb) (Kd.R_reads' hR).2.1)
  have HE := Aside0.mk he
  have HEL := Aside0.mk hel
  have HM := Aside0.mk hm
  have HKY := Aside0.mk (Hd.keyOf_txt hm)
  have HTH := Aside0.mk hth
  have HOK := Aside0.mk hok
  have HLX := Aside0.mk hl
  have HCT := Aside0.mk hct
  obtain ⟨ml, hml⟩ : ∃ ml, ml = m.length := ⟨_, rfl⟩
  obtain ⟨t, ht⟩ : ∃ t, t = s.f0 := ⟨_, rfl⟩
  obtain ⟨v, hv⟩ : ∃ v, v = s.f1 := ⟨_, rfl⟩
  have HT := Aside0.mk ht
  have HV := Aside0.mk hv
  have HML := Aside0.mk hml
  rw [← hml] at HTX
  rw [← hml, ← ht, ← hv]
  clear hct hH hm hR hok he hel hl hth hml ht hv
  go_enter Try.func115, Try.ntmps115
  go_upto_region 1 with fail
  refine cwp_world ?_
  intro W1 hW1
  obtain ⟨bx, hbx⟩ : ∃ g, g = W.heap.size := ⟨_, rfl⟩
  have HX1 := Aside0.mk (show W1.heap[bx]? = some (.cells #[.int .i64 t, .int .i64 v] 44 (0, 0)) by rw [hW1, hbx]; exact blk_new _ _)
  have hb1 : Below W.heap.size W W1 := by rw [hW1]; exact below_alloc (Below.refl _ _) _
  have HB1 := Aside0.mk hb1
  have HT1 := Aside0.mk (HTX.out W1 hb1)
  have HBX := Aside0.mk hbx
  rw [← hbx]
  clear hW1 hbx hb1 HTX
  go_upto_region 2 with (go_at_call 62; (with_reducible refine HT1.out.mono ?_); rintro e2 W4 ⟨rfl, hb2⟩; have HX4 := Aside0.mk (blk_below HX1.out hb2); have HB4 := Aside0.mk (below_step HB1.out hb2); clear hb2)
  have HH4 := Aside0.mk (HH.out.below HB4.out)
  have hlook := HH4.out.look_hit HE.out (s := Hl.txt m) (by rw [HEL.out]; exact HKY.out)
  have b1 := (blk_cell HH4.out.head 1).trans (show (#[.int .i64 win, .map (some mb), .int .i64 (Hd.cnt (Hd.abs S) : Nat)] : Array Value)[1]? = some (.map (some mb)) from rfl)
  have HEN4 := Aside0.mk (HH4.out.ent e HE.out)
  have hxne := Hd.ne_of HH4.out HE.out
  have HRI := Aside0.mk (HH4.out.ok.rise (e.ls, e.xs) (List.mem_map_of_mem HE.out))
  obtain ⟨els, xs, eg, elv, esv⟩ := e
  dsimp only at hlook HRI HTH HLX hxne HEL
  obtain ⟨gs, cs, hsv, hgs, _, _⟩ := Kd.R_form HEN4.out.sam (List.length_pos_iff.2 hxne)
  dsimp only at hsv
  subst hsv
  obtain ⟨n, hn⟩ : ∃ n, n = xs.length := ⟨_, rfl⟩
  have HN := Aside0.mk hn
  have HS4 := Aside0.mk HEN4.out.sam
  have HG4 := Aside0.mk HEN4.out.blk
  dsimp only at HS4 HG4
  rw [← hn] at HS4 HG4
  obtain ⟨As, hAs⟩ : ∃ As : Option Addr, As = some ⟨gs, 0, none⟩ := ⟨_, rfl⟩
  rw [← hAs] at HS4 HG4
  have HAS := Aside0.mk hAs
  have HSE := Aside0.mk (fun W (hb : Below W4.heap.size W4 W) => by
    have h1 := Kd.C_below (Kd.R_reads' HS4.out).2.2 hb
    have h2 := head_search.calls As cs xs t W h1 HRI.out (by have := HLX.out; omega)
    rw [← hn] at h2
    exact h2)
  obtain ⟨p, hp⟩ : ∃ p, p = Hd.pos xs t := ⟨_, rfl⟩
  have HP := Aside0.mk hp
  have HTHT := Aside0.mk (show Hd.there xs t = false by rw [HT.out]; exact HTH.out)
  rw [← hp, HTHT.out] at HSE
  clear HT1 hgs hn hp hAs hxne
  go_upto_region 7 with fail
  clear hlook b1
  have HBD := Aside0.mk (below_drew1 (Below.refl W4.heap.size W4))
  refine start_ (n := 13) (S := fun w' => w'.cell? ⟨eg, 1, none⟩ = some (.slice As n cs) ∧ w'.cell? ⟨bx, 0, none⟩ = some (.int .i64 t)) (ds := []) #[false, false, false, false, false, false, false, false, false, false, false, false, false] (by kernel_rfl) rfl rfl ⟨(blk_cell HG4.out 1).trans rfl, (blk_cell HX4.out 0).trans rfl⟩ (fun hHeld => ?_)
  generalize W4.drew = WD at HBD hHeld ⊢
  refine pure_ (i := 0) (N := (some 31)) (v := ?_) (a' := ?_) #[true, false, false, false, false, false, false, false, false, false, false, false, false] rfl rfl (by kernel_rfl) (fun _ _ _ h => h) (Or.inl ⟨by rfl, ?_⟩) ?_ ?_
  rotate_left
  · intro w'
    go_simp
    with_reducible rfl
  rotate_left
  · simp only [Act.put, List.setIfInBounds_toArray, List.set_cons_zero, List.set_cons_succ, i64_w, i32_w]
    rfl
  refine pure_ (i := 1) (N := (some 32)) (v := ?_) (a' := ?_) #[true, true, false, false, false, false, false, false, false, false, false, false, false] rfl rfl (by kernel_rfl) (fun _ _ _ h => h) (Or.inl ⟨by rfl, ?_⟩) ?_ ?_
  rotate_left
  · intro w'
    go_simp
    with_reducible rfl
  rotate_left
  · simp only [Act.put, List.setIfInBounds_toArray, List.set_cons_zero, List.set_cons_succ, i64_w, i32_w]
    rfl
  refine pure_ (i := 2) (N := (some 33)) (v := ?_) (a' := ?_) #[true, true, true, false, false, false, false, false, false, false, false, false, false] rfl rfl (by kernel_rfl) (fun _ _ _ h => h) (Or.inl ⟨by rfl, ?_⟩) ?_ ?_
  rotate_left
  · intro w'
    go_simp
    with_reducible rfl
  rotate_left
  · simp only [Act.put, List.setIfInBounds_toArray, List.set_cons_zero, List.set_cons_succ, i64_w, i32_w]
    rfl
  refine take_ (i := 3) (N := (some 34)) (v := ?_) (a' := ?_) #[true, true, true, true, false, false, false, false, false, false, false, false, false] rfl rfl (by kernel_rfl) (fun _ _ _ h => h) (Or.inl ⟨by rfl, ?_⟩) hHeld ?_ ?_
  rotate_left
  · rintro w' ⟨s0, s1⟩
    go_simp
    with_reducible rfl
  rotate_left
  · simp only [Act.put, List.setIfInBounds_toArray, List.set_cons_zero, List.set_cons_succ, i64_w, i32_w]
    rfl
  refine pure_ (i := 4) (N := (some 35)) (v := ?_) (a' := ?_) #[true, true, true, true, true, false, false, false, false, false, false, false, false] rfl rfl (by kernel_rfl) (fun _ _ _ h => h) (Or.inl ⟨by rfl, ?_⟩) ?_ ?_
  rotate_left
  · intro w'
    go_simp
    with_reducible rfl
  rotate_left
  · simp only [Act.put, List.setIfInBounds_toArray, List.set_cons_zero, List.set_cons_succ, i64_w, i32_w]
    rfl
  refine take_ (i := 5) (N := (some 36)) (v := ?_) (a' := ?_) #[true, true, true, true, true, true, false, false, false, false, false, false, false] rfl rfl (by kernel_rfl) (fun _ _ _ h => h) (Or.inl ⟨by rfl, ?_⟩) hHeld ?_ ?_
  rotate_left
  · rintro w' ⟨s0, s1⟩
    go_simp
    with_reducible rfl
  rotate_left
  · simp only [Act.put, List.setIfInBounds_toArray, List.set_cons_zero, List.set_cons_succ, i64_w, i32_w]
    rfl
  refine pure_ (i := 6) (N := (some 37)) (v := ?_) (a' := ?_) #[true, true, true, true, true, true, true, false, false, false, false, false, false] rfl rfl (by kernel_rfl) (fun _ _ _ h => h) (Or.inl ⟨by rfl, ?_⟩) ?_ ?_
  rotate_left
  · intro w'
    go_simp
    with_reducible rfl
  rotate_left
  · simp only [Act.put, List.setIfInBounds_toArray, List.set_cons_zero, List.set_cons_succ, i64_w, i32_w]
    rfl
  refine one_ (i := 7) (N := (some 38)) #[true, true, true, true, true, true, true, true, false, false, false, false, false] rfl rfl (by kernel_rfl) (by decide) (fun K hK => ?_)
  refine goes_ Try.func138 (by kernel_rfl) rfl #[.slice As n cs, .int .i64 t, .func (.func 137) #[] #[]] (by rfl) rfl rfl (by first | (simp; done) | ((try simp only [List.map_toArray, List.map_cons, List.map_nil]); first | done | rfl)) ?_
  (with_reducible refine (HSE.out _ HBD.out).mono ?_)
  rintro e W5 ⟨rfl, hb5⟩
  refine ⟨_, rfl, ?_⟩
  have HB5 := Aside0.mk (below_step HBD.out hb5)
  clear hb5 HBD
  refine hK.out _ _ ⟨(blk_cell (blk_below HG4.out HB5.out) 1).trans rfl, (blk_cell (blk_below HX4.out HB5.out) 0).trans rfl⟩ (fun hHeld => ?_)
  clear hK K
  refine norm_ (a' := ?_) ?_ ?_
  rotate_left
  · show Act.put _ (some 38) _ = _
    simp only [Act.put, List.setIfInBounds_toArray, List.set_cons_zero, List.set_cons_succ, i64_w, i32_w]
    rfl
  refine pure_ (i := 8) (N := (some 30)) (v := ?_) (a' := ?_) #[true, true, true, true, true, true, true, true, true, false, false, false, false] rfl rfl (by kernel_rfl) (fun _ _ _ h => h) (Or.inl ⟨by rfl, ?_⟩) ?_ ?_
  rotate_left
  · intro w'
    go_simp
    with_reducible rfl
  rotate_left
  · simp only [Act.put, List.setIfInBounds_toArray, List.set_cons_zero, List.set_cons_succ, i64_w, i32_w]
    rfl
  refine pure_ (i := 9) (N := (some 39)) (v := ?_) (a' := ?_) #[true, true, true, true, true, true, true, true, true, true, false, false, false] rfl rfl (by kernel_rfl) (fun _ _ _ h => h) (Or.inl ⟨by rfl, ?_⟩) ?_ ?_
  rotate_left
  · intro w'
    go_simp
    with_reducible rfl
  rotate_left
  · simp only [Act.put, List.setIfInBounds_toArray, List.set_cons_zero, List.set_cons_succ, i64_w, i32_w]
    rfl
  refine pure_ (i := 10) (N := (some 40)) (v := ?_) (a' := ?_) #[true, true, true, true, true, true, true, true, true, true, true, false, false] rfl rfl (by kernel_rfl) (fun _ _ _ h => h) (Or.inl ⟨by rfl, ?_⟩) ?_ ?_
  rotate_left
  · intro w'
    go_simp
    with_reducible rfl
  rotate_left
  · simp only [Act.put, List.setIfInBounds_toArray, List.set_cons_zero, List.set_cons_succ, i64_w, i32_w]
    rfl
  refine pure_ (i := 11) (N := (some 9)) (v := ?_) (a' := ?_) #[true, true, true, true, true, true, true, true, true, true, true, true, false] rfl rfl (by kernel_rfl) (fun _ _ _ h => h) (Or.inl ⟨by rfl, ?_⟩) ?_ ?_
  rotate_left
  · intro w'
    go_simp
    with_reducible rfl
  rotate_left
  · simp only [Act.put, List.setIfInBounds_toArray, List.set_cons_zero, List.set_cons_succ, i64_w, i32_w]
    rfl
  refine pure_ (i := 12) (N := (some 10)) (v := ?_) (a' := ?_) #[true, true, true, true, true, true, true, true, true, true, true, true, true] rfl rfl (by kernel_rfl) (fun _ _ _ h => h) (Or.inl ⟨by rfl, ?_⟩) ?_ ?_
  rotate_left
  · intro w'
    go_simp
    with_reducible rfl
  rotate_left
  · simp only [Act.put, List.setIfInBounds_toArray, List.set_cons_zero, List.set_cons_succ, i64_w, i32_w]
    rfl
  refine done_ (by kernel_rfl) ?_
  go_upto_region 10 with fail
  have HG5 := Aside0.mk (blk_below HG4.out HB5.out)
  have HX5 := Aside0.mk (blk_below HX4.out HB5.out)
  have HS5 := Aside0.mk (Kd.R_below HS4.out HB5.out)
  have HNX := Aside0.mk (show some bx ≠ (Value.slice As n cs).ownBlock from fun h => by
    obtain ⟨inner, ho⟩ := Kd.R_own (HH.out.ent _ HE.out).sam
    have h1 := own_lt ho bx (by dsimp only; rw [← HAS.out, ← HN.out]; exact h.symm)
    have := HBX.out
    omega)
  have HEN := Aside0.mk (show some eg ≠ (Value.slice As n cs).ownBlock from fun h => by
    obtain ⟨cells, h1⟩ := Kd.R_typed HS5.out eg h.symm
    exact absurd (Hd.type_ne HG5.out h1) (by decide))
  have HBS := Aside0.mk (show base ≤ W5.heap.size from by
    have h1 := (HH.out.lt hb (.inl rfl))
    have h2 := HB4.out.size
    have h3 := HB5.out.size
    omega)
  have HPN := Aside0.mk (show p ≤ n by rw [HP.out, HN.out]; exact Hd.pos_le _ _)
  have HINS := Aside0.mk (fun (WE : World) (vb : Nat) (hr : k44.R 44 WE base (fun _ => True) (.slice As n cs) xs) (hv : WE.heap[vb]? = some (.cells #[.int .i64 t, .int .i64 v] 44 (0, 0))) (hne : some vb ≠ (Value.slice As n cs).ownBlock) (hb : W5.heap.size ≤ WE.heap.size) => by
    have h := Insert.calls base WE As cs xs p s vb (by rw [← HN.out]; exact hr) (by rw [← HT.out, ← HV.out]; exact hv) (by rw [← HN.out]; exact hne) (Nat.le_trans HBS.out hb) (by rw [← HN.out]; exact HPN.out) HLX.out
    rw [← HN.out] at h
    exact h)
  clear hHeld
  have HBD := Aside0.mk (below_drew1 (Below.refl W5.heap.size W5))
  refine start_ (n := 12) (S := fun w' => w'.cell? ⟨eg, 1, none⟩ = some (.slice As n cs) ∧ w'.cell? ⟨bx, 0, none⟩ = some (.int .i64 t) ∧ w'.cell? ⟨bx, 1, none⟩ = some (.int .i64 v)) (ds := [11]) #[false, false, false, false, false, false, false, false, false, false, false, false] (by kernel_rfl) rfl rfl ⟨(blk_cell HG5.out 1).trans rfl, (blk_cell HX5.out 0).trans rfl, (blk_cell HX5.out 1).trans rfl⟩ (fun hHeld => ?_)
  generalize W5.drew = WD at HBD hHeld ⊢
  refine pure_ (i := 0) (N := (some 49)) (v := ?_) (a' := ?_) #[true, false, false, false, false, false, false, false, false, false, false, false] rfl rfl (by kernel_rfl) (fun _ _ _ h => h) (Or.inl ⟨by rfl, ?_⟩) ?_ ?_
  rotate_left
  · intro w'
    go_simp
    with_reducible rfl
  rotate_left
  · simp only [Act.put, List.setIfInBounds_toArray, List.set_cons_zero, List.set_cons_succ, i64_w, i32_w]
    rfl
  refine pure_ (i := 1) (N := (some 50)) (v := ?_) (a' := ?_) #[true, true, false, false, false, false, false, false, false, false, false, false] rfl rfl (by kernel_rfl) (fun _ _ _ h => h) (Or.inl ⟨by rfl, ?_⟩) ?_ ?_
  rotate_left
  · intro w'
    go_simp
    with_reducible rfl
  rotate_left
  · simp only [Act.put, List.setIfInBounds_toArray, List.set_cons_zero, List.set_cons_succ, i64_w, i32_w]
    rfl
  refine pure_ (i := 2) (N := (some 51)) (v := ?_) (a' := ?_) #[true, true, true, false, false, false, false, false, false, false, false, false] rfl rfl (by kernel_rfl) (fun _ _ _ h => h) (Or.inl ⟨by rfl, ?_⟩) ?_ ?_
  rotate_left
  · intro w'
    go_simp
    with_reducible rfl
  rotate_left
  · simp only [Act.put, List.setIfInBounds_toArray, List.set_cons_zero, List.set_cons_succ, i64_w, i32_w]
    rfl
  refine pure_ (i := 3) (N := (some 52)) (v := ?_) (a' := ?_) #[true, true, true, true, false, false, false, false, false, false, false, false] rfl rfl (by kernel_rfl) (fun _ _ _ h => h) (Or.inl ⟨by rfl, ?_⟩) ?_ ?_
  rotate_left
  · intro w'
    go_simp
    with_reducible rfl
  rotate_left
  · simp only [Act.put, List.setIfInBounds_toArray, List.set_cons_zero, List.set_cons_succ, i64_w, i32_w]
    rfl
  refine take_ (i := 4) (N := (some 53)) (v := ?_) (a' := ?_) #[true, true, true, true, true, false, false, false, false, false, false, false] rfl rfl (by kernel_rfl) (fun _ _ _ h => h) (Or.inl ⟨by rfl, ?_⟩) hHeld ?_ ?_
  rotate_left
  · rintro w' ⟨s0, s1, s2⟩
    go_simp
    with_reducible rfl
  rotate_left
  · simp only [Act.put, List.setIfInBounds_toArray, List.set_cons_zero, List.set_cons_succ, i64_w, i32_w]
    rfl
  refine pure_ (i := 5) (N := (some 54)) (v := ?_) (a' := ?_) #[true, true, true, true, true, true, false, false, false, false, false, false] rfl rfl (by kernel_rfl) (fun _ _ _ h => h) (Or.inl ⟨by rfl, ?_⟩) ?_ ?_
  rotate_left
  · intro w'
    go_simp
    with_reducible rfl
  rotate_left
  · simp only [Act.put, List.setIfInBounds_toArray, List.set_cons_zero, List.set_cons_succ, i64_w, i32_w]
    rfl
  refine take_ (i := 6) (N := (some 55)) (v := ?_) (a' := ?_) #[true, true, true, true, true, true, true, false, false, false, false, false] rfl rfl (by kernel_rfl) (fun _ _ _ h => h) (Or.inl ⟨by rfl, ?_⟩) hHeld ?_ ?_
  rotate_left
  · rintro w' ⟨s0, s1, s2⟩
    go_simp
    with_reducible rfl
  rotate_left
  · simp only [Act.put, List.setIfInBounds_toArray, List.set_cons_zero, List.set_cons_succ, i64_w, i32_w]
    rfl
  refine one_ (i := 7) (N := (some 56)) #[true, true, true, true, true, true, true, true, false, false, false, false] rfl rfl (by kernel_rfl) (by decide) (fun K hK => ?_)
  refine event_step (w1 := WD.alloc (.cells #[.int .i64 t, .int .i64 v] 44)) (v := .slice (some ⟨WD.heap.size, 0, none⟩) 1 1) (by rfl) ?hr ?_
  (case hr => first | (go_simp; done) | (go_simp; rfl))
  obtain ⟨WE, hWE⟩ : ∃ W, W = WD.alloc (.cells #[.int .i64 t, .int .i64 v] 44) := ⟨_, rfl⟩
  obtain ⟨vb, hvb⟩ : ∃ g, g = WD.heap.size := ⟨_, rfl⟩
  have hbe : Below WD.heap.size WD WE := by rw [hWE]; exact below_alloc (Below.refl _ _) _
  have HVB := Aside0.mk (show WE.heap[vb]? = some (.cells #[.int .i64 t, .int .i64 v] 44 (0, 0)) by rw [hWE, hvb]; exact blk_new _ _)
  have HVN := Aside0.mk (show some vb ≠ (Value.slice As n cs).ownBlock from fun h => by
    obtain ⟨inner, ho⟩ := Kd.R_own HS5.out
    have h1 := own_lt ho vb h.symm
    have h2 := HBD.out.size
    omega)
  have HBE := Aside0.mk (below_step HBD.out hbe)
  rw [← hWE, ← hvb]
  clear hWE hvb hbe HBD
  refine hK.out _ _ ⟨(blk_cell (blk_below HG5.out HBE.out) 1).trans rfl, (blk_cell (blk_below HX5.out HBE.out) 0).trans rfl, (blk_cell (blk_below HX5.out HBE.out) 1).trans rfl⟩ (fun hHeld => ?_)
  clear hK K
  refine norm_ (a' := ?_) ?_ ?_
  rotate_left
  · show Act.put _ (some 56) _ = _
    simp only [Act.put, List.setIfInBounds_toArray, List.set_cons_zero, List.set_cons_succ, i64_w, i32_w]
    rfl
  refine one_ (i := 8) (N := (some 57)) #[true, true, true, true, true, true, true, true, true, false, false, false] rfl rfl (by kernel_rfl) (by decide) (fun K hK => ?_)
  refine goes_ Try.func139 (by kernel_rfl) rfl #[.slice As n cs, .int .i64 (p : Nat), .slice (some ⟨vb, 0, none⟩) 1 1] (by rfl) rfl rfl (by first | (simp; done) | ((try simp only [List.map_toArray, List.map_cons, List.map_nil]); first | done | rfl)) ?_
  (with_reducible refine (HINS.out WE vb (Kd.R_below HS5.out HBE.out) HVB.out HVN.out HBE.out.size).mono ?_)
  rintro e W6 ⟨v6, rfl, hr6, hg6, hat6⟩
  refine ⟨_, rfl, ?_⟩
  obtain ⟨A6, c6, e6⟩ := Kd.R_slice hr6
  subst e6
  obtain ⟨n6, hn6⟩ : ∃ n6, n6 = (xs.take p ++ s :: xs.drop p).length := ⟨_, rfl⟩
  rw [← hn6] at hr6 hat6 ⊢
  have HN6 := Aside0.mk hn6
  clear hn6
  have HR6 := Aside0.mk hr6
  have HGR6 := Aside0.mk hg6
  have HAT6 := Aside0.mk hat6
  have HG6 := Aside0.mk (blk_grown (blk_below HG5.out HBE.out) hg6 HEN.out)
  have HX6 := Aside0.mk (blk_grown (blk_below HX5.out HBE.out) hg6 HNX.out)
  clear hr6 hg6 hat6
  refine hK.out _ _ ⟨(blk_cell HG6.out 1).trans rfl, (blk_cell HX6.out 0).trans rfl, (blk_cell HX6.out 1).trans rfl⟩ (fun hHeld => ?_)
  clear hK K
  refine norm_ (a' := ?_) ?_ ?_
  rotate_left
  · show Act.put _ (some 57) _ = _
    simp only [Act.put, List.setIfInBounds_toArray, List.set_cons_zero, List.set_cons_succ, i64_w, i32_w]
    rfl
  refine pure_ (i := 9) (N := (some 58)) (v := ?_) (a' := ?_) #[true, true, true, true, true, true, true, true, true, true, false, false] rfl rfl (by kernel_rfl) (fun _ _ _ h => h) (Or.inl ⟨by rfl, ?_⟩) ?_ ?_
  rotate_left
  · intro w'
    go_simp
    with_reducible rfl
  rotate_left
  · simp only [Act.put, List.setIfInBounds_toArray, List.set_cons_zero, List.set_cons_succ, i64_w, i32_w]
    rfl
  refine pure_ (i := 10) (N := (some 59)) (v := ?_) (a' := ?_) #[true, true, true, true, true, true, true, true, true, true, true, false] rfl rfl (by kernel_rfl) (fun _ _ _ h => h) (Or.inl ⟨by rfl, ?_⟩) ?_ ?_
  rotate_left
  · intro w'
    go_simp
    with_reducible rfl
  rotate_left
  · simp only [Act.put, List.setIfInBounds_toArray, List.set_cons_zero, List.set_cons_succ, i64_w, i32_w]
    rfl
  refine last_ (i := 11) (N := none) #[true, true, true, true, true, true, true, true, true, true, true, true] rfl rfl (by kernel_rfl) (by decide) (fun K hK => ?_)
  have hz := blk_frozen HG6.out 1
  have hz4 : W6.cell? ⟨eg, 1, none⟩ = some (.slice As n cs) := (blk_cell HG6.out 1).trans rfl
  refine skip_ (w1 := ?_) (by rfl) rfl ?_ ?_
  rotate_left
  · go_simp
    rfl
  refine hK.out _ _ ?_
  clear hK K hz hz4
  refine done_ (by kernel_rfl) ?_
  go_upto_region 11 with fail
  refine cwp_world ?_
  intro W7 hW7
  have HH5 := Aside0.mk (HH4.out.below HB5.out)
  obtain ⟨ct, hct⟩ : ∃ ct : Nat, ct = Hd.cnt (Hd.abs S) := ⟨_, rfl⟩
  have hhd5 := HH5.out.head
  rw [← hct] at hhd5
  have hneh : some hb ≠ (Value.slice As n cs).ownBlock := fun h => by
    obtain ⟨cells, h1⟩ := Kd.R_typed HS5.out hb h.symm
    exact absurd (Hd.type_ne hhd5 h1) (by decide)
  have hhe : hb ≠ eg := by
    rintro rfl
    exact absurd (Hd.type_ne hhd5 HG5.out) (by decide)
  have hhd6 := blk_grown (blk_below hhd5 HBE.out) HGR6.out hneh
  have HHD7 := Aside0.mk (show W7.heap[hb]? = some (.cells #[.int .i64 win, .map (some mb), .int .i64 (ct : Nat)] 115 (0, 0)) by rw [hW7]; exact blk_far hhd6 (p := ⟨eg, 1, none⟩) hhe _)
  have HG7 := Aside0.mk (show W7.heap[eg]? = some (.cells #[elv, .slice A6 n6 c6] 120 (0, 0)) by rw [hW7]; exact blk_put HG6.out 1 _ rfl)
  have hn6e : ∀ k, (Value.slice A6 n6 c6).ownBlock = some k → k ≠ eg ∧ k ≠ hb := fun k hk => by
    obtain ⟨cells, h1⟩ := Kd.R_typed HR6.out k hk
    constructor
    · rintro rfl
      exact absurd (Hd.type_ne HG6.out h1) (by decide)
    · rintro rfl
      exact absurd (Hd.type_ne hhd6 h1) (by decide)
  have HR7 := Aside0.mk (show k44.R 44 W7 base (fun _ => True) (.slice A6 n6 c6) (xs.take p ++ s :: xs.drop p) by
    rw [hW7]
    exact Hd.R44_move HR6.out (fun k hk => Below.heap_setCell _ ⟨eg, 1, none⟩ _ k (hn6e k hk).1))
  have HK7 := Aside0.mk (show ∀ k, k < W5.heap.size → k ≠ eg → (Value.slice As n cs).ownBlock ≠ some k → W7.heap[k]? = W5.heap[k]? by
    intro k hk h1 h2
    rw [hW7]
    exact (Below.heap_setCell _ ⟨eg, 1, none⟩ _ k h1).trans ((HGR6.out.block k (Nat.lt_of_lt_of_le hk HBE.out.size) (fun h => h2 h.symm)).trans (HBE.out.block k hk)))
  have HO7 := Aside0.mk (show W7.os = W5.os ∧ W7.tape = W5.tape ∧ W7.output = W5.output ∧ W5.heap.size ≤ W7.heap.size by
    rw [hW7]
    exact ⟨HGR6.out.os.trans HBE.out.os, HGR6.out.tape.trans HBE.out.tape, HGR6.out.output.trans HBE.out.output, Nat.le_trans (Nat.le_trans HBE.out.size HGR6.out.size) (Nat.le_of_eq (by simp [World.setCell]))⟩)
  have HN6E := Aside0.mk hn6e
  have HHE := Aside0.mk hhe
  have q0 : W7.cell? ⟨hb, 2, none⟩ = some (.int .i64 (ct : Nat)) := (blk_cell HHD7.out 2).trans rfl
  have q1 := blk_frozen HHD7.out 2
  have HCTE := Aside0.mk hct
  have hctb : ct ≤ 1099511627776 := by rw [hct]; exact HCT.out
  clear hW7 hct hhd5 hhd6 hneh hhe hn6e hHeld HG6 HX6 HX5 HVB HVN HNX HEN HINS HSE
  go_wp2_with fail
  go_end0
  have hfd : Hd.find (Hd.abs S) els = some xs := Hd.find_ent_some HH5.out.ok.sorted HE.out
  have hxs : Hd.putS xs s = xs.take p ++ s :: xs.drop p := by rw [HP.out, HT.out]; exact Hd.putS_new HTH.out
  have hput : Hd.putL (Hd.abs S) m s = Hd.setA (Hd.abs S) els (xs.take p ++ s :: xs.drop p) := by
    unfold Hd.putL
    rw [← HEL.out, hfd]
    show Hd.setA (Hd.abs S) els (Hd.putS xs s) = _
    rw [hxs]
  have hcnt : Hd.cnt (Hd.setA (Hd.abs S) els (xs.take p ++ s :: xs.drop p)) = ct + 1 := by
    have := Hd.cnt_setA (L := Hd.abs S) (m := els) (xs := xs.take p ++ s :: xs.drop p) HH5.out.ok.sorted
    rw [hfd] at this
    simp only [Option.getD_some, List.length_append, List.length_cons, List.length_take, List.length_drop] at this
    have h1 := HPN.out
    have h2 := HN.out
    have h3 := HCTE.out
    omega
  have hfar : ∀ k, k ≠ hb → (W7.setCell ⟨hb, 2, none⟩ (.int .i64 ((ct : Int) + 1))).heap[k]? = W7.heap[k]? := fun k hk => Below.heap_setCell _ ⟨hb, 2, none⟩ _ k hk
  have hbw : Below W.heap.size W W5 := below_step HB4.out HB5.out
  refine ⟨rfl, Hd.setE S ⟨els, xs.take p ++ s :: xs.drop p, eg, elv, .slice A6 n6 c6⟩, ?_, ?_, ?_⟩
  · refine HH5.out.update (W' := W7.setCell ⟨hb, 2, none⟩ (.int .i64 ((ct : Int) + 1))) HE.out ((hfar eg (Ne.symm HHE.out)).trans HG7.out) (Hd.R44_move HR7.out (fun k hk => hfar k (HN6E.out k hk).2)) ?_ ?_ ?_ ?_
    · rcases HAT6.out with h1 | ⟨b, h1, h2⟩
      · left
        rw [h1, HAS.out]
        rfl
      · exact .inr ⟨b, h1, Nat.le_trans HBE.out.size h2⟩
    · have h9 : (W7.setCell ⟨hb, 2, none⟩ (.int .i64 ((ct : Int) + 1))).heap[hb]? = some (.cells #[.int .i64 win, .map (some mb), .int .i64 ((ct + 1 : Nat) : Int)] 115 (0, 0)) := blk_put HHD7.out 2 _ rfl
      rw [← hcnt] at h9
      exact h9
    · intro k hk h1 h2 h3
      refine (hfar k h2).trans (HK7.out k (HH5.out.lt k hk).2 h1 ?_)
      rw [HAS.out]
      exact h3
    · rw [← hput]
      exact HOK.out
  · rw [Hd.abs_setE]
    exact hput.symm
  · refine ⟨HO7.out.1.trans hbw.os, HO7.out.2.1.trans hbw.tape, HO7.out.2.2.1.trans hbw.output, Nat.le_trans hbw.size (Nat.le_trans HO7.out.2.2.2 (Nat.le_of_eq (by simp [World.setCell]))), fun k hk hn => ?_, fun k hk => ?_⟩
    · refine (hfar k (fun h => hn (.inl (.inl h)))).trans ((HK7.out k (Nat.lt_of_lt_of_le hk hbw.size) (fun h => hn (.inl (.inr (.inr ⟨_, HE.out, .inl h⟩)))) (fun h => hn (.inl (.inr (.inr ⟨_, HE.out, .inr (.inr ?_)⟩))))).trans (hbw.block k hk))
      rw [HAS.out] at h
      exact h
    · rcases hk with h1 | h1 | ⟨x, hx, h1⟩
      · exact .inl (.inl (.inl h1))
      · exact .inl (.inl (.inr (.inl h1)))
      · rcases Hd.setE_mem (Hd.esorted_of HH5.out.ok.sorted) hx with rfl | ⟨hx, _⟩
        · rcases h1 with h1 | h1 | h1
          · exact .inl (.inl (.inr (.inr ⟨_, HE.out, .inl h1⟩)))
          · exact .inl (.inl (.inr (.inr ⟨_, HE.out, .inr (.inl h1)⟩)))
          · rcases HAT6.out with h2 | ⟨b, h2, h3⟩
            · have h4 : (Value.slice As n cs).ownBlock = some k := h2.symm.trans h1
              rw [HAS.out] at h4
              exact .inl (.inl (.inr (.inr ⟨_, HE.out, .inr (.inr h4)⟩)))
            · have h4 : some b = some k := h2.symm.trans h1
              injection h4 with h4
              have := hbw.size
              have := HBE.out.size
              exact .inr (by omega)
        · exact .inl (.inl (.inr (.inr ⟨x, hx, h1⟩)))
end
end Go.Proofs.Ytcgocdhffcnleaa.PHead

/- A part of the proofs about the head: see the theorems' own lines. -/
namespace Go.Proofs.Ytcgocdhffcnleaa.PHead
open Go Go.RowKit Go.Proofs.YtcgocdhffcnleaaW.PrintWords Go.Proofs.YtcgocdhffcnleaaW.PrintLast Go.Proofs.YtcgocdhffcnleaaW.PrintMore Go.Proofs.Ytcgocdhffcnleaa.XB Go.Proofs.Ytcgocdhffcnleaa.PHeadPlays Go.Proofs.Ytcgocdhffcnleaa.XH
set_option linter.unusedVariables false
set_option linter.unusedSimpArgs false
section
open Go.Maps
theorem Hd.map_uniq {W : World} {b n n' : Nat} {D D' : DataW Unit} (h : W.ownsMap Try.prog 9 Hd.RP b n D) (h' : W.ownsMap Try.prog 9 Hd.RP b n' D') : D = D' := by
  obtain ⟨es, ck, h1, _, _, rfl⟩ := h
  obtain ⟨es', ck', h1', _, _, rfl⟩ := h'
  rw [h1] at h1'
  injection h1' with h1'
  injection h1' with h1' _
  rw [h1']
set_option maxHeartbeats 8000000 in
set_option maxRecDepth 100000 in
theorem head_put.fresh (base hb mb : Nat) (win : Int) (S : List Hd.Ent) (Am : Option Addr) (cm : Nat) (m : List S53) (s : S44) (W : World) (hH : Hd.HR base hb mb win S W) (hm : Hl.made m) (hR : k53.R 53 W base (fun _ => True) (.slice Am m.length cm) m)
    (hok : Hd.Ok (Hd.putL (Hd.abs S) m s)) (hf : Hd.find (Hd.abs S) m = none) (hct : Hd.cnt (Hd.abs S) ≤ 1099511627776) :
    Calls Try.prog 115 #[.pointer (some ⟨hb, 0, none⟩), .slice Am m.length cm, .agg #[.int .i64 s.f0, .int .i64 s.f1]] W fun e' w' => head_put.Post base hb mb win S m (.slice Am m.length cm) s W e' w' := by
  have HH := Aside0.mk hH
  have HTX := Aside0.mk (fun W' (hb : Below W.heap.size W W') => labels_Text.calls Am cm m W' (Kd.C_below (Kd.R_reads' hR).2.2 hb) (Kd.R_reads' hR).2.1)
  have HM := Aside0.mk hm
  have HKY := Aside0.mk (Hd.keyOf_txt hm)
  have HF := Aside0.mk hf
  have HOK := Aside0.mk hok
  have HLR := Aside0.mk hR
  have HCT := Aside0.mk hct
  obtain ⟨ml, hml⟩ : ∃ ml, ml = m.length := ⟨_, rfl⟩
  obtain ⟨t, ht⟩ : ∃ t, t = s.f0 := ⟨_, rfl⟩
  obtain ⟨v, hv⟩ : ∃ v, v = s.f1 := ⟨_, rfl⟩
  have HT := Aside0.mk ht
  have HV := Aside0.mk hv
  have HML := Aside0.mk hml
  rw [← hml] at HTX HLR
  rw [← hml, ← ht, ← hv]
  clear hH hm hR hok hf hct hml ht hv
  go_enter Try.func115, Try.ntmps115
  go_upto_region 1 with fail
  refine cwp_world ?_
  intro W1 hW1
  obtain ⟨bx, hbx⟩ : ∃ g, g = W.heap.size := ⟨_, rfl⟩
  have HX1 := Aside0.mk (show W1.heap[bx]? = some (.cells #[.int .i64 t, .int .i64 v] 44 (0, 0)) by rw [hW1, hbx]; exact blk_new _ _)
  have hb1 : Below W.heap.size W W1 := by rw [hW1]; exact below_alloc (Below.refl _ _) _
  have HB1 := Aside0.mk hb1
  have HT1 := Aside0.mk (HTX.out W1 hb1)
  have HBX := Aside0.mk hbx
  rw [← hbx]
  clear hW1 hbx hb1 HTX
  go_upto_region 2 with (go_at_call 62; (with_reducible refine HT1.out.mono ?_); rintro e2 W2 ⟨rfl, hb2⟩; have HX2 := Aside0.mk (blk_below HX1.out hb2); have HB2 := Aside0.mk (below_step HB1.out hb2); clear hb2)
  have HH2 := Aside0.mk (HH.out.below HB2.out)
  have hlook := HH2.out.look_miss HKY.out (Hd.miss_keys HH2.out HM.out HF.out)
  have b1 := (blk_cell HH2.out.head 1).trans (show (#[.int .i64 win, .map (some mb), .int .i64 (Hd.cnt (Hd.abs S) : Nat)] : Array Value)[1]? = some (.map (some mb)) from rfl)
  clear HT1 HX1 HB1
  go_upto_region 5 with fail
  refine cwp_world ?_
  intro W3 hW3
  obtain ⟨eg, heg⟩ : ∃ g, g = W2.heap.size := ⟨_, rfl⟩
  have hb3 : Below W2.heap.size W2 W3 := by rw [hW3]; exact below_alloc (Below.refl _ _) _
  have HG3 := Aside0.mk (show W3.heap[eg]? = some (.cells #[.slice Am ml cm, .slice none 0 0] 120 (0, 0)) by rw [hW3, heg]; exact blk_new _ _)
  have HB3 := Aside0.mk hb3
  have HEG := Aside0.mk heg
  have HH3 := Aside0.mk (HH2.out.below hb3)
  have b3 := (blk_cell HH3.out.head 1).trans (show (#[.int .i64 win, .map (some mb), .int .i64 (Hd.cnt (Hd.abs S) : Nat)] : Array Value)[1]? = some (.map (some mb)) from rfl)
  obtain ⟨D, hD, hDI⟩ := HH3.out.map
  have HD := Aside0.mk hD
  have HLS := Aside0.mk (show S.length ≤ 1000 from by
    have h1 := HH3.out.ok.len
    unfold Hd.abs at h1
    rw [List.length_map] at h1
    exact h1)
  rw [← heg]
  clear hW3 heg hb3 hlook b1 hD hDI
  go_upto_region 6 with (at_mapUpdate; refine wpList_mapUpdate_own _ rfl _ _ _ 113 rfl 9 117 Hd.law9 Try.underlying113 Hd.RP mb S.length D rfl HD.out (by have := HLS.out; unfold maxLen; omega) _ _ _ rfl rfl HKY.out _ [] (Hd.RP_ptr eg) ?_; intro W4 hown4 hg4; have HOW4 := Aside0.mk hown4; have HGW4 := Aside0.mk hg4; clear hown4 hg4)
  have hmt : ∀ (cs : Array Value) (t : TypeId), W3.heap[mb]? ≠ some (.cells cs t (0, 0)) := by
    intro cs t h2
    obtain ⟨es, ck, hb1, _⟩ := HD.out
    rw [hb1] at h2
    cases h2
  have HG4 := Aside0.mk (blk_grown HG3.out HGW4.out (fun h => hmt _ _ (by have := HG3.out; rw [show eg = mb from Option.some.inj h] at this; exact this)))
  have hx3 := blk_below HX2.out HB3.out
  have HX4 := Aside0.mk (blk_grown hx3 HGW4.out (fun h => hmt _ _ (by rw [show bx = mb from Option.some.inj h] at hx3; exact hx3)))
  have HHD4 := Aside0.mk (blk_grown HH3.out.head HGW4.out (fun h => hmt _ _ (by have := HH3.out.head; rw [show hb = mb from Option.some.inj h] at this; exact this)))
  obtain ⟨xs, hxs⟩ : ∃ xs : List S44, xs = [] := ⟨_, rfl⟩
  obtain ⟨n, hn⟩ : ∃ n, n = xs.length := ⟨_, rfl⟩
  obtain ⟨As, hAs⟩ : ∃ As : Option Addr, As = none := ⟨_, rfl⟩
  obtain ⟨cs, hcs⟩ : ∃ cs, cs = 0 := ⟨_, rfl⟩
  have hn0 : n = 0 := by rw [hn, hxs]; rfl
  have HS4 := Aside0.mk (show k44.R 44 W4 base (fun _ => True) (.slice As n cs) xs by rw [hAs, hn0, hcs, hxs]; exact Kd.R_nil _ _ _ _ _)
  rw [show (Value.slice none 0 0) = .slice As n cs by rw [hAs, hn0, hcs]] at HG4
  have HXS := Aside0.mk hxs
  have HN := Aside0.mk hn
  have HAS := Aside0.mk hAs
  have HSE := Aside0.mk (fun W (hb : Below W4.heap.size W4 W) => by
    have h1 := Kd.C_below (Kd.R_reads' HS4.out).2.2 hb
    have h2 := head_search.calls As cs xs t W h1 (by rw [HXS.out]; exact List.Pairwise.nil) (by rw [HXS.out]; simp)
    rw [← hn] at h2
    exact h2)
  obtain ⟨p, hp⟩ : ∃ p, p = Hd.pos xs t := ⟨_, rfl⟩
  have HP := Aside0.mk hp
  have HTHT := Aside0.mk (show Hd.there xs t = false by rw [HXS.out]; rfl)
  rw [← hp, HTHT.out] at HSE
  have HMT := Aside0.mk hmt
  clear hmt hx3 hxs hn hAs hcs hn0 hp
  go_upto_region 7 with fail
  have HBD := Aside0.mk (below_drew1 (Below.refl W4.heap.size W4))
  refine start_ (n := 13) (S := fun w' => w'.cell? ⟨eg, 1, none⟩ = some (.slice As n cs) ∧ w'.cell? ⟨bx, 0, none⟩ = some (.int .i64 t)) (ds := []) #[false, false, false, false, false, false, false, false, false, false, false, false, false] (by kernel_rfl) rfl rfl ⟨(blk_cell HG4.out 1).trans rfl, (blk_cell HX4.out 0).trans rfl⟩ (fun hHeld => ?_)
  generalize W4.drew = WD at HBD hHeld ⊢
  refine pure_ (i := 0) (N := (some 31)) (v := ?_) (a' := ?_) #[true, false, false, false, false, false, false, false, false, false, false, false, false] rfl rfl (by kernel_rfl) (fun _ _ _ h => h) (Or.inl ⟨by rfl, ?_⟩) ?_ ?_
  rotate_left
  · intro w'
    go_simp
    with_reducible rfl
  rotate_left
  · simp only [Act.put, List.setIfInBounds_toArray, List.set_cons_zero, List.set_cons_succ, i64_w, i32_w]
    rfl
  refine pure_ (i := 1) (N := (some 32)) (v := ?_) (a' := ?_) #[true, true, false, false, false, false, false, false, false, false, false, false, false] rfl rfl (by kernel_rfl) (fun _ _ _ h => h) (Or.inl ⟨by rfl, ?_⟩) ?_ ?_
  rotate_left
  · intro w'
    go_simp
    with_reducible rfl
  rotate_left
  · simp only [Act.put, List.setIfInBounds_toArray, List.set_cons_zero, List.set_cons_succ, i64_w, i32_w]
    rfl
  refine pure_ (i := 2) (N := (some 33)) (v := ?_) (a' := ?_) #[true, true, true, false, false, false, false, false, false, false, false, false, false] rfl rfl (by kernel_rfl) (fun _ _ _ h => h) (Or.inl ⟨by rfl, ?_⟩) ?_ ?_
  rotate_left
  · intro w'
    go_simp
    with_reducible rfl
  rotate_left
  · simp only [Act.put, List.setIfInBounds_toArray, List.set_cons_zero, List.set_cons_succ, i64_w, i32_w]
    rfl
  refine take_ (i := 3) (N := (some 34)) (v := ?_) (a' := ?_) #[true, true, true, true, false, false, false, false, false, false, false, false, false] rfl rfl (by kernel_rfl) (fun _ _ _ h => h) (Or.inl ⟨by rfl, ?_⟩) hHeld ?_ ?_
  rotate_left
  · rintro w' ⟨s0, s1⟩
    go_simp
    with_reducible rfl
  rotate_left
  · simp only [Act.put, List.setIfInBounds_toArray, List.set_cons_zero, List.set_cons_succ, i64_w, i32_w]
    rfl
  refine pure_ (i := 4) (N := (some 35)) (v := ?_) (a' := ?_) #[true, true, true, true, true, false, false, false, false, false, false, false, false] rfl rfl (by kernel_rfl) (fun _ _ _ h => h) (Or.inl ⟨by rfl, ?_⟩) ?_ ?_
  rotate_left
  · intro w'
    go_simp
    with_reducible rfl
  rotate_left
  · simp only [Act.put, List.setIfInBounds_toArray, List.set_cons_zero, List.set_cons_succ, i64_w, i32_w]
    rfl
  refine take_ (i := 5) (N := (some 36)) (v := ?_) (a' := ?_) #[true, true, true, true, true, true, false, false, false, false, false, false, false] rfl rfl (by kernel_rfl) (fun _ _ _ h => h) (Or.inl ⟨by rfl, ?_⟩) hHeld ?_ ?_
  rotate_left
  · rintro w' ⟨s0, s1⟩
    go_simp
    with_reducible rfl
  rotate_left
  · simp only [Act.put, List.setIfInBounds_toArray, List.set_cons_zero, List.set_cons_succ, i64_w, i32_w]
    rfl
  refine pure_ (i := 6) (N := (some 37)) (v := ?_) (a' := ?_) #[true, true, true, true, true, true, true, false, false, false, false, false, false] rfl rfl (by kernel_rfl) (fun _ _ _ h => h) (Or.inl ⟨by rfl, ?_⟩) ?_ ?_
  rotate_left
  · intro w'
    go_simp
    with_reducible rfl
  rotate_left
  · simp only [Act.put, List.setIfInBounds_toArray, List.set_cons_zero, List.set_cons_succ, i64_w, i32_w]
    rfl
  refine one_ (i := 7) (N := (some 38)) #[true, true, true, true, true, true, true, true, false, false, false, false, false] rfl rfl (by kernel_rfl) (by decide) (fun K hK => ?_)
  refine goes_ Try.func138 (by kernel_rfl) rfl #[.slice As n cs, .int .i64 t, .func (.func 137) #[] #[]] (by rfl) rfl rfl (by first | (simp; done) | ((try simp only [List.map_toArray, List.map_cons, List.map_nil]); first | done | rfl)) ?_
  (with_reducible refine (HSE.out _ HBD.out).mono ?_)
  rintro e W5 ⟨rfl, hb5⟩
  refine ⟨_, rfl, ?_⟩
  have HB5 := Aside0.mk (below_step HBD.out hb5)
  clear hb5 HBD
  refine hK.out _ _ ⟨(blk_cell (blk_below HG4.out HB5.out) 1).trans rfl, (blk_cell (blk_below HX4.out HB5.out) 0).trans rfl⟩ (fun hHeld => ?_)
  clear hK K
  refine norm_ (a' := ?_) ?_ ?_
  rotate_left
  · show Act.put _ (some 38) _ = _
    simp only [Act.put, List.setIfInBounds_toArray, List.set_cons_zero, List.set_cons_succ, i64_w, i32_w]
    rfl
  refine pure_ (i := 8) (N := (some 30)) (v := ?_) (a' := ?_) #[true, true, true, true, true, true, true, true, true, false, false, false, false] rfl rfl (by kernel_rfl) (fun _ _ _ h => h) (Or.inl ⟨by rfl, ?_⟩) ?_ ?_
  rotate_left
  · intro w'
    go_simp
    with_reducible rfl
  rotate_left
  · simp only [Act.put, List.setIfInBounds_toArray, List.set_cons_zero, List.set_cons_succ, i64_w, i32_w]
    rfl
  refine pure_ (i := 9) (N := (some 39)) (v := ?_) (a' := ?_) #[true, true, true, true, true, true, true, true, true, true, false, false, false] rfl rfl (by kernel_rfl) (fun _ _ _ h => h) (Or.inl ⟨by rfl, ?_⟩) ?_ ?_
  rotate_left
  · intro w'
    go_simp
    with_reducible rfl
  rotate_left
  · simp only [Act.put, List.setIfInBounds_toArray, List.set_cons_zero, List.set_cons_succ, i64_w, i32_w]
    rfl
  refine pure_ (i := 10) (N := (some 40)) (v := ?_) (a' := ?_) #[true, true, true, true, true, true, true, true, true, true, true, false, false] rfl rfl (by kernel_rfl) (fun _ _ _ h => h) (Or.inl ⟨by rfl, ?_⟩) ?_ ?_
  rotate_left
  · intro w'
    go_simp
    with_reducible rfl
  rotate_left
  · simp only [Act.put, List.setIfInBounds_toArray, List.set_cons_zero, List.set_cons_succ, i64_w, i32_w]
    rfl
  refine pure_ (i := 11) (N := (some 9)) (v := ?_) (a' := ?_) #[true, true, true, true, true, true, true, true, true, true, true, true, false] rfl rfl (by kernel_rfl) (fun _ _ _ h => h) (Or.inl ⟨by rfl, ?_⟩) ?_ ?_
  rotate_left
  · intro w'
    go_simp
    with_reducible rfl
  rotate_left
  · simp only [Act.put, List.setIfInBounds_toArray, List.set_cons_zero, List.set_cons_succ, i64_w, i32_w]
    rfl
  refine pure_ (i := 12) (N := (some 10)) (v := ?_) (a' := ?_) #[true, true, true, true, true, true, true, true, true, true, true, true, true] rfl rfl (by kernel_rfl) (fun _ _ _ h => h) (Or.inl ⟨by rfl, ?_⟩) ?_ ?_
  rotate_left
  · intro w'
    go_simp
    with_reducible rfl
  rotate_left
  · simp only [Act.put, List.setIfInBounds_toArray, List.set_cons_zero, List.set_cons_succ, i64_w, i32_w]
    rfl
  refine done_ (by kernel_rfl) ?_
  go_upto_region 10 with fail
  have HG5 := Aside0.mk (blk_below HG4.out HB5.out)
  have HX5 := Aside0.mk (blk_below HX4.out HB5.out)
  have HS5 := Aside0.mk (Kd.R_below HS4.out HB5.out)
  have HNX := Aside0.mk (show some bx ≠ (Value.slice As n cs).ownBlock from fun h => by rw [HAS.out] at h; cases h)
  have HEN := Aside0.mk (show some eg ≠ (Value.slice As n cs).ownBlock from fun h => by rw [HAS.out] at h; cases h)
  have HBS := Aside0.mk (show base ≤ W5.heap.size from by
    have h1 := (HH3.out.lt hb (.inl rfl))
    have h2 := HGW4.out.size
    have h3 := HB5.out.size
    omega)
  have HPN := Aside0.mk (show p ≤ n by rw [HP.out, HN.out]; exact Hd.pos_le _ _)
  have HINS := Aside0.mk (fun (WE : World) (vb : Nat) (hr : k44.R 44 WE base (fun _ => True) (.slice As n cs) xs) (hv : WE.heap[vb]? = some (.cells #[.int .i64 t, .int .i64 v] 44 (0, 0))) (hne : some vb ≠ (Value.slice As n cs).ownBlock) (hb : W5.heap.size ≤ WE.heap.size) => by
    have h := Insert.calls base WE As cs xs p s vb (by rw [← HN.out]; exact hr) (by rw [← HT.out, ← HV.out]; exact hv) (by rw [← HN.out]; exact hne) (Nat.le_trans HBS.out hb) (by rw [← HN.out]; exact HPN.out) (by rw [HXS.out]; simp)
    rw [← HN.out] at h
    exact h)
  clear hHeld
  have HBD := Aside0.mk (below_drew1 (Below.refl W5.heap.size W5))
  refine start_ (n := 12) (S := fun w' => w'.cell? ⟨eg, 1, none⟩ = some (.slice As n cs) ∧ w'.cell? ⟨bx, 0, none⟩ = some (.int .i64 t) ∧ w'.cell? ⟨bx, 1, none⟩ = some (.int .i64 v)) (ds := [11]) #[false, false, false, false, false, false, false, false, false, false, false, false] (by kernel_rfl) rfl rfl ⟨(blk_cell HG5.out 1).trans rfl, (blk_cell HX5.out 0).trans rfl, (blk_cell HX5.out 1).trans rfl⟩ (fun hHeld => ?_)
  generalize W5.drew = WD at HBD hHeld ⊢
  refine pure_ (i := 0) (N := (some 49)) (v := ?_) (a' := ?_) #[true, false, false, false, false, false, false, false, false, false, false, false] rfl rfl (by kernel_rfl) (fun _ _ _ h => h) (Or.inl ⟨by rfl, ?_⟩) ?_ ?_
  rotate_left
  · intro w'
    go_simp
    with_reducible rfl
  rotate_left
  · simp only [Act.put, List.setIfInBounds_toArray, List.set_cons_zero, List.set_cons_succ, i64_w, i32_w]
    rfl
  refine pure_ (i := 1) (N := (some 50)) (v := ?_) (a' := ?_) #[true, true, false, false, false, false, false, false, false, false, false, false] rfl rfl (by kernel_rfl) (fun _ _ _ h => h) (Or.inl ⟨by rfl, ?_⟩) ?_ ?_
  rotate_left
  · intro w'
    go_simp
    with_reducible rfl
  rotate_left
  · simp only [Act.put, List.setIfInBounds_toArray, List.set_cons_zero, List.set_cons_succ, i64_w, i32_w]
    rfl
  refine pure_ (i := 2) (N := (some 51)) (v := ?_) (a' := ?_) #[true, true, true, false, false, false, false, false, false, false, false, false] rfl rfl (by kernel_rfl) (fun _ _ _ h => h) (Or.inl ⟨by rfl, ?_⟩) ?_ ?_
  rotate_left
  · intro w'
    go_simp
    with_reducible rfl
  rotate_left
  · simp only [Act.put, List.setIfInBounds_toArray, List.set_cons_zero, List.set_cons_succ, i64_w, i32_w]
    rfl
  refine pure_ (i := 3) (N := (some 52)) (v := ?_) (a' := ?_) #[true, true, true, true, false, false, false, false, false, false, false, false] rfl rfl (by kernel_rfl) (fun _ _ _ h => h) (Or.inl ⟨by rfl, ?_⟩) ?_ ?_
  rotate_left
  · intro w'
    go_simp
    with_reducible rfl
  rotate_left
  · simp only [Act.put, List.setIfInBounds_toArray, List.set_cons_zero, List.set_cons_succ, i64_w, i32_w]
    rfl
  refine take_ (i := 4) (N := (some 53)) (v := ?_) (a' := ?_) #[true, true, true, true, true, false, false, false, false, false, false, false] rfl rfl (by kernel_rfl) (fun _ _ _ h => h) (Or.inl ⟨by rfl, ?_⟩) hHeld ?_ ?_
  rotate_left
  · rintro w' ⟨s0, s1, s2⟩
    go_simp
    with_reducible rfl
  rotate_left
  · simp only [Act.put, List.setIfInBounds_toArray, List.set_cons_zero, List.set_cons_succ, i64_w, i32_w]
    rfl
  refine pure_ (i := 5) (N := (some 54)) (v := ?_) (a' := ?_) #[true, true, true, true, true, true, false, false, false, false, false, false] rfl rfl (by kernel_rfl) (fun _ _ _ h => h) (Or.inl ⟨by rfl, ?_⟩) ?_ ?_
  rotate_left
  · intro w'
    go_simp
    with_reducible rfl
  rotate_left
  · simp only [Act.put, List.setIfInBounds_toArray, List.set_cons_zero, List.set_cons_succ, i64_w, i32_w]
    rfl
  refine take_ (i := 6) (N := (some 55)) (v := ?_) (a' := ?_) #[true, true, true, true, true, true, true, false, false, false, false, false] rfl rfl (by kernel_rfl) (fun _ _ _ h => h) (Or.inl ⟨by rfl, ?_⟩) hHeld ?_ ?_
  rotate_left
  · rintro w' ⟨s0, s1, s2⟩
    go_simp
    with_reducible rfl
  rotate_left
  · simp only [Act.put, List.setIfInBounds_toArray, List.set_cons_zero, List.set_cons_succ, i64_w, i32_w]
    rfl
  refine one_ (i := 7) (N := (some 56)) #[true, true, true, true, true, true, true, true, false, false, false, false] rfl rfl (by kernel_rfl) (by decide) (fun K hK => ?_)
  refine event_step (w1 := WD.alloc (.cells #[.int .i64 t, .int .i64 v] 44)) (v := .slice (some ⟨WD.heap.size, 0, none⟩) 1 1) (by rfl) ?hr ?_
  (case hr => first | (go_simp; done) | (go_simp; rfl))
  obtain ⟨WE, hWE⟩ : ∃ W, W = WD.alloc (.cells #[.int .i64 t, .int .i64 v] 44) := ⟨_, rfl⟩
  obtain ⟨vb, hvb⟩ : ∃ g, g = WD.heap.size := ⟨_, rfl⟩
  have hbe : Below WD.heap.size WD WE := by rw [hWE]; exact below_alloc (Below.refl _ _) _
  have HVB := Aside0.mk (show WE.heap[vb]? = some (.cells #[.int .i64 t, .int .i64 v] 44 (0, 0)) by rw [hWE, hvb]; exact blk_new _ _)
  have HVN := Aside0.mk (show some vb ≠ (Value.slice As n cs).ownBlock from fun h => by
    obtain ⟨inner, ho⟩ := Kd.R_own HS5.out
    have h1 := own_lt ho vb h.symm
    have h2 := HBD.out.size
    omega)
  have HBE := Aside0.mk (below_step HBD.out hbe)
  rw [← hWE, ← hvb]
  clear hWE hvb hbe HBD
  refine hK.out _ _ ⟨(blk_cell (blk_below HG5.out HBE.out) 1).trans rfl, (blk_cell (blk_below HX5.out HBE.out) 0).trans rfl, (blk_cell (blk_below HX5.out HBE.out) 1).trans rfl⟩ (fun hHeld => ?_)
  clear hK K
  refine norm_ (a' := ?_) ?_ ?_
  rotate_left
  · show Act.put _ (some 56) _ = _
    simp only [Act.put, List.setIfInBounds_toArray, List.set_cons_zero, List.set_cons_succ, i64_w, i32_w]
    rfl
  refine one_ (i := 8) (N := (some 57)) #[true, true, true, true, true, true, true, true, true, false, false, false] rfl rfl (by kernel_rfl) (by decide) (fun K hK => ?_)
  refine goes_ Try.func139 (by kernel_rfl) rfl #[.slice As n cs, .int .i64 (p : Nat), .slice (some ⟨vb, 0, none⟩) 1 1] (by rfl) rfl rfl (by first | (simp; done) | ((try simp only [List.map_toArray, List.map_cons, List.map_nil]); first | done | rfl)) ?_
  (with_reducible refine (HINS.out WE vb (Kd.R_below HS5.out HBE.out) HVB.out HVN.out HBE.out.size).mono ?_)
  rintro e W6 ⟨v6, rfl, hr6, hg6, hat6⟩
  refine ⟨_, rfl, ?_⟩
  obtain ⟨A6, c6, e6⟩ := Kd.R_slice hr6
  subst e6
  obtain ⟨n6, hn6⟩ : ∃ n6, n6 = (xs.take p ++ s :: xs.drop p).length := ⟨_, rfl⟩
  rw [← hn6] at hr6 hat6 ⊢
  have HN6 := Aside0.mk hn6
  clear hn6
  have HR6 := Aside0.mk hr6
  have HGR6 := Aside0.mk hg6
  have HAT6 := Aside0.mk hat6
  have HG6 := Aside0.mk (blk_grown (blk_below HG5.out HBE.out) hg6 HEN.out)
  have HX6 := Aside0.mk (blk_grown (blk_below HX5.out HBE.out) hg6 HNX.out)
  clear hr6 hg6 hat6
  refine hK.out _ _ ⟨(blk_cell HG6.out 1).trans rfl, (blk_cell HX6.out 0).trans rfl, (blk_cell HX6.out 1).trans rfl⟩ (fun hHeld => ?_)
  clear hK K
  refine norm_ (a' := ?_) ?_ ?_
  rotate_left
  · show Act.put _ (some 57) _ = _
    simp only [Act.put, List.setIfInBounds_toArray, List.set_cons_zero, List.set_cons_succ, i64_w, i32_w]
    rfl
  refine pure_ (i := 9) (N := (some 58)) (v := ?_) (a' := ?_) #[true, true, true, true, true, true, true, true, true, true, false, false] rfl rfl (by kernel_rfl) (fun _ _ _ h => h) (Or.inl ⟨by rfl, ?_⟩) ?_ ?_
  rotate_left
  · intro w'
    go_simp
    with_reducible rfl
  rotate_left
  · simp only [Act.put, List.setIfInBounds_toArray, List.set_cons_zero, List.set_cons_succ, i64_w, i32_w]
    rfl
  refine pure_ (i := 10) (N := (some 59)) (v := ?_) (a' := ?_) #[true, true, true, true, true, true, true, true, true, true, true, false] rfl rfl (by kernel_rfl) (fun _ _ _ h => h) (Or.inl ⟨by rfl, ?_⟩) ?_ ?_
  rotate_left
  · intro w'
    go_simp
    with_reducible rfl
  rotate_left
  · simp only [Act.put, List.setIfInBounds_toArray, List.set_cons_zero, List.set_cons_succ, i64_w, i32_w]
    rfl
  refine last_ (i := 11) (N := none) #[true, true, true, true, true, true, true, true, true, true, true, true] rfl rfl (by kernel_rfl) (by decide) (fun K hK => ?_)
  have hz := blk_frozen HG6.out 1
  have hz4 : W6.cell? ⟨eg, 1, none⟩ = some (.slice As n cs) := (blk_cell HG6.out 1).trans rfl
  refine skip_ (w1 := ?_) (by rfl) rfl ?_ ?_
  rotate_left
  · go_simp
    rfl
  refine hK.out _ _ ?_
  clear hK K hz hz4
  refine done_ (by kernel_rfl) ?_
  go_upto_region 11 with fail
  refine cwp_world ?_
  intro W7 hW7
  obtain ⟨ct, hct⟩ : ∃ ct : Nat, ct = Hd.cnt (Hd.abs S) := ⟨_, rfl⟩
  have hhd5 := blk_below HHD4.out HB5.out
  rw [← hct] at hhd5
  have hneh : some hb ≠ (Value.slice As n cs).ownBlock := fun h => by rw [HAS.out] at h; cases h
  have hhe : hb ≠ eg := by
    rintro rfl
    exact absurd (Hd.type_ne hhd5 HG5.out) (by decide)
  have hhd6 := blk_grown (blk_below hhd5 HBE.out) HGR6.out hneh
  have HHD7 := Aside0.mk (show W7.heap[hb]? = some (.cells #[.int .i64 win, .map (some mb), .int .i64 (ct : Nat)] 115 (0, 0)) by rw [hW7]; exact blk_far hhd6 (p := ⟨eg, 1, none⟩) hhe _)
  have HG7 := Aside0.mk (show W7.heap[eg]? = some (.cells #[.slice Am ml cm, .slice A6 n6 c6] 120 (0, 0)) by rw [hW7]; exact blk_put HG6.out 1 _ rfl)
  have hn6e : ∀ k, (Value.slice A6 n6 c6).ownBlock = some k → k ≠ eg ∧ k ≠ hb := fun k hk => by
    obtain ⟨cells, h1⟩ := Kd.R_typed HR6.out k hk
    constructor
    · rintro rfl
      exact absurd (Hd.type_ne HG6.out h1) (by decide)
    · rintro rfl
      exact absurd (Hd.type_ne hhd6 h1) (by decide)
  have HR7 := Aside0.mk (show k44.R 44 W7 base (fun _ => True) (.slice A6 n6 c6) (xs.take p ++ s :: xs.drop p) by
    rw [hW7]
    exact Hd.R44_move HR6.out (fun k hk => Below.heap_setCell _ ⟨eg, 1, none⟩ _ k (hn6e k hk).1))
  have HK7 := Aside0.mk (show ∀ k, k < W5.heap.size → k ≠ eg → W7.heap[k]? = W5.heap[k]? by
    intro k hk h1
    rw [hW7]
    exact (Below.heap_setCell _ ⟨eg, 1, none⟩ _ k h1).trans ((HGR6.out.block k (Nat.lt_of_lt_of_le hk HBE.out.size) (fun h => by rw [HAS.out] at h; cases h)).trans (HBE.out.block k hk)))
  have HO7 := Aside0.mk (show W7.os = W5.os ∧ W7.tape = W5.tape ∧ W7.output = W5.output ∧ W5.heap.size ≤ W7.heap.size by
    rw [hW7]
    exact ⟨HGR6.out.os.trans HBE.out.os, HGR6.out.tape.trans HBE.out.tape, HGR6.out.output.trans HBE.out.output, Nat.le_trans (Nat.le_trans HBE.out.size HGR6.out.size) (Nat.le_of_eq (by simp [World.setCell]))⟩)
  have HN6E := Aside0.mk hn6e
  have HHE := Aside0.mk hhe
  have q0 : W7.cell? ⟨hb, 2, none⟩ = some (.int .i64 (ct : Nat)) := (blk_cell HHD7.out 2).trans rfl
  have q1 := blk_frozen HHD7.out 2
  have HCTE := Aside0.mk hct
  have hctb : ct ≤ 1099511627776 := by rw [hct]; exact HCT.out
  clear hW7 hct hhd5 hhd6 hneh hhe hn6e hHeld HG6 HX6 HX5 HVB HVN HNX HEN HINS HSE
  go_wp2_with fail
  go_end0
  have hxs : Hd.putS xs s = xs.take p ++ s :: xs.drop p := by rw [HP.out, HT.out]; exact Hd.putS_new (by rw [← HT.out]; exact HTHT.out)
  have hput : Hd.putL (Hd.abs S) m s = Hd.setA (Hd.abs S) m (xs.take p ++ s :: xs.drop p) := by
    unfold Hd.putL
    rw [HF.out, ← hxs, HXS.out]
    rfl
  have hcnt : Hd.cnt (Hd.setA (Hd.abs S) m (xs.take p ++ s :: xs.drop p)) = ct + 1 := by
    have := Hd.cnt_setA (L := Hd.abs S) (m := m) (xs := xs.take p ++ s :: xs.drop p) HH2.out.ok.sorted
    rw [HF.out, HXS.out] at this
    simp only [Option.getD_none, List.length_nil, List.take_nil, List.drop_nil, List.nil_append, List.length_cons] at this
    have h3 := HCTE.out
    rw [HXS.out]
    simp only [List.take_nil, List.drop_nil, List.nil_append]
    omega
  have hfar : ∀ k, k ≠ hb → (W7.setCell ⟨hb, 2, none⟩ (.int .i64 ((ct : Int) + 1))).heap[k]? = W7.heap[k]? := fun k hk => Below.heap_setCell _ ⟨hb, 2, none⟩ _ k hk
  have hold : ∀ k, k < W2.heap.size → k ≠ hb → k ≠ mb → (W7.setCell ⟨hb, 2, none⟩ (.int .i64 ((ct : Int) + 1))).heap[k]? = W2.heap[k]? := fun k hk h1 h2 => by
    have h3 := HB3.out.size
    have h4 := HGW4.out.size
    have h5 := HB5.out.size
    have h6 := HEG.out
    exact (hfar k h1).trans ((HK7.out k (by omega) (by omega)).trans ((HB5.out.block k (by omega)).trans ((HGW4.out.block k (by omega) (fun h => h2 (Option.some.inj h))).trans (HB3.out.block k hk))))
  have hmh : mb ≠ hb := fun h => HMT.out _ _ (by rw [h]; exact HH3.out.head)
  have hmb8 : (W7.setCell ⟨hb, 2, none⟩ (.int .i64 ((ct : Int) + 1))).heap[mb]? = W4.heap[mb]? := by
    have h1 := (HH2.out.lt mb (.inr (.inl rfl))).2
    have h3 := HB3.out.size
    have h4 := HGW4.out.size
    have h5 := HB5.out.size
    have h6 := HEG.out
    exact (hfar mb hmh).trans ((HK7.out mb (by omega) (by omega)).trans (HB5.out.block mb (by omega)))
  have hlv : ∀ k, (Value.slice Am ml cm).ownBlock = some k → k < W.heap.size ∧ k ≠ hb ∧ k ≠ mb := fun k hk => by
    obtain ⟨inner, ho⟩ := Kd.R_own HLR.out
    obtain ⟨cells, h1⟩ := own_typed ho k hk
    have h2 := own_lt ho k hk
    have h3 := blk_below h1 (below_step HB2.out HB3.out)
    refine ⟨h2, ?_, ?_⟩
    · rintro rfl
      exact absurd (Hd.type_ne HH3.out.head h3) (by decide)
    · rintro rfl
      exact HMT.out _ _ h3
  have he7 : eg ≠ hb := Ne.symm HHE.out
  obtain ⟨e, he⟩ : ∃ e : Hd.Ent, e = ⟨m, xs.take p ++ s :: xs.drop p, eg, .slice Am ml cm, .slice A6 n6 c6⟩ := ⟨_, rfl⟩
  have hels : e.ls = m := by rw [he]
  have hexs : e.xs = xs.take p ++ s :: xs.drop p := by rw [he]
  have heg : e.g = eg := by rw [he]
  have helv : e.lv = .slice Am ml cm := by rw [he]
  have hesv : e.sv = .slice A6 n6 c6 := by rw [he]
  clear he
  have hbw : Below W.heap.size W W2 := HB2.out
  have hsv : ∀ k, e.sv.ownBlock = some k → W2.heap.size ≤ k := fun k hk => by
    rw [hesv] at hk
    rcases HAT6.out with h1 | ⟨b, h1, h2⟩
    · rw [h1, HAS.out] at hk
      cases hk
    · rw [h1] at hk
      injection hk with hk
      have h3 := HB3.out.size
      have h4 := HGW4.out.size
      have h5 := HB5.out.size
      have h6 := HBE.out.size
      omega
  refine ⟨rfl, Hd.setE S e, ?_, ?_, ?_⟩
  · refine HH2.out.insert (W' := W7.setCell ⟨hb, 2, none⟩ (.int .i64 ((ct : Int) + 1))) (by rw [hels]; exact HF.out) (by rw [hels]; exact HM.out) (fun D' hD' => ?_) ⟨?_, ?_, ?_, ?_⟩ (by rw [heg, HEG.out]; exact Nat.le_refl _) hsv ?_ ?_ ?_
    · rw [Hd.map_uniq (map_below hD' HB3.out) HD.out, hels, heg]
      obtain ⟨es, ck, h1, r⟩ := HOW4.out
      exact ⟨es, ck, hmb8.trans h1, r⟩
    · rw [heg, HEG.out]
      have := (HH2.out.lt hb (.inl rfl))
      omega
    · rw [heg, helv, hesv]
      exact (hfar eg he7).trans HG7.out
    · rw [helv, hels]
      refine Hd.R53_move (Kd.R_below HLR.out hbw) (fun k hk => ?_)
      obtain ⟨h1, h2, h3⟩ := hlv k hk
      exact hold k (Nat.lt_of_lt_of_le h1 hbw.size) h2 h3
    · rw [hesv, hexs]
      exact Hd.R44_move HR7.out (fun k hk => hfar k (HN6E.out k hk).2)
    · have h9 : (W7.setCell ⟨hb, 2, none⟩ (.int .i64 ((ct : Int) + 1))).heap[hb]? = some (.cells #[.int .i64 win, .map (some mb), .int .i64 ((ct + 1 : Nat) : Int)] 115 (0, 0)) := blk_put HHD7.out 2 _ rfl
      rw [← hcnt] at h9
      rw [hels, hexs]
      exact h9
    · intro k hk h1 h2
      exact hold k (HH2.out.lt k hk).2 h1 h2
    · rw [hels, hexs, ← hput]
      exact HOK.out
  · rw [Hd.abs_setE, hels, hexs]
    exact hput.symm
  · have o1 := HO7.out.1.trans ((HB5.out.os.trans (HGW4.out.os.trans HB3.out.os)).trans hbw.os)
    have o2 := HO7.out.2.1.trans ((HB5.out.tape.trans (HGW4.out.tape.trans HB3.out.tape)).trans hbw.tape)
    have o3 := HO7.out.2.2.1.trans ((HB5.out.output.trans (HGW4.out.output.trans HB3.out.output)).trans hbw.output)
    refine ⟨o1, o2, o3, ?_, fun k hk hn => ?_, fun k hk => ?_⟩
    · refine Nat.le_trans hbw.size (Nat.le_trans HB3.out.size (Nat.le_trans HGW4.out.size (Nat.le_trans HB5.out.size (Nat.le_trans HO7.out.2.2.2 (Nat.le_of_eq (by simp [World.setCell]))))))
    · exact (hold k (Nat.lt_of_lt_of_le hk hbw.size) (fun h => hn (.inl (.inl h))) (fun h => hn (.inl (.inr (.inl h))))).trans (hbw.block k hk)
    · have hws := hbw.size
      rcases hk with h1 | h1 | ⟨x, hx, h1⟩
      · exact .inl (.inl (.inl h1))
      · exact .inl (.inl (.inr (.inl h1)))
      · rcases Hd.setE_mem (Hd.esorted_of HH2.out.ok.sorted) hx with hxe | ⟨hx, _⟩
        · rw [hxe] at h1
          rcases h1 with h1 | h1 | h1
          · rw [heg, HEG.out] at h1
            exact .inr (by omega)
          · rw [helv] at h1
            exact .inl (.inr h1)
          · have := hsv k h1
            exact .inr (by omega)
        · exact .inl (.inl (.inr (.inr ⟨x, hx, h1⟩)))
end
end Go.Proofs.Ytcgocdhffcnleaa.PHead

/- A part of the proofs about the head: see the theorems' own lines. -/
namespace Go.Proofs.Ytcgocdhffcnleaa.PHead
open Go Go.RowKit Go.Proofs.YtcgocdhffcnleaaW.PrintWords Go.Proofs.YtcgocdhffcnleaaW.PrintLast Go.Proofs.YtcgocdhffcnleaaW.PrintMore Go.Proofs.Ytcgocdhffcnleaa.XB Go.Proofs.Ytcgocdhffcnleaa.PHeadPlays Go.Proofs.Ytcgocdhffcnleaa.XH
set_option linter.unusedVariables false
set_option linter.unusedSimpArgs false
section
theorem Hd.len_le_cnt : ∀ {L : Hd.A} {p : List S53 × List S44}, p ∈ L → p.2.length ≤ Hd.cnt L
  | q :: L, p, h => by
    rcases List.mem_cons.1 h with h1 | h1
    · rw [h1]; simp [Hd.cnt]
    · have := Hd.len_le_cnt h1
      simp only [Hd.cnt, List.map_cons, List.sum_cons] at this ⊢
      omega
theorem Hd.cnt_putL {L : Hd.A} (hs : Hd.sorted L) (m : List S53) (s : S44) : Hd.cnt (Hd.putL L m s) ≤ Hd.cnt L + 1 := by
  have h := Hd.cnt_setA (m := m) (xs := Hd.putS ((Hd.find L m).getD []) s) hs
  have h2 := (Hd.putS_len ((Hd.find L m).getD []) s).2
  unfold Hd.putL
  omega
theorem Hd.rowF_err {win low c : Int} {L : Hd.A} {r : S46} (h : Hd.rowF win low L r = .error c) : c ≠ 0 := by
  unfold Hd.rowF at h
  cases hm : Hl.mk r.f0 with
  | none => rw [hm] at h; injection h with h; omega
  | some m =>
    rw [hm] at h
    simp only at h
    split at h
    · injection h with h; omega
    · split at h
      · injection h with h; omega
      · split at h
        · split at h
          · injection h with h; omega
          · cases h
        · split at h
          · injection h with h; omega
          · cases h
theorem Hd.askF_err {win low c : Int} : ∀ {rows : List S46} {L : Hd.A}, Hd.askF win low rows L = .error c → c ≠ 0
  | [], L, h => by cases h
  | r :: rs, L, h => by
    rw [Hd.askF] at h
    cases hr : Hd.rowF win low L r with
    | error e => rw [hr] at h; injection h with h; rw [← h]; exact Hd.rowF_err hr
    | ok L' => rw [hr] at h; exact Hd.askF_err h
theorem head_put.calls (base hb mb : Nat) (win : Int) (S : List Hd.Ent) (Am : Option Addr) (cm : Nat) (m : List S53) (s : S44) (W : World) (hH : Hd.HR base hb mb win S W) (hm : Hl.made m) (hR : k53.R 53 W base (fun _ => True) (.slice Am m.length cm) m)
    (hok : Hd.Ok (Hd.putL (Hd.abs S) m s)) (hct : Hd.cnt (Hd.abs S) ≤ 1099511627776) :
    Calls Try.prog 115 #[.pointer (some ⟨hb, 0, none⟩), .slice Am m.length cm, .agg #[.int .i64 s.f0, .int .i64 s.f1]] W fun e' w' => head_put.Post base hb mb win S m (.slice Am m.length cm) s W e' w' := by
  cases hf : Hd.find (Hd.abs S) m with
  | none => exact head_put.fresh base hb mb win S Am cm m s W hH hm hR hok hf hct
  | some xs =>
    obtain ⟨e, he, hel, hex⟩ := Hd.find_ent hf
    have hl : e.xs.length ≤ 1099511627776 := Nat.le_trans (Hd.len_le_cnt (L := Hd.abs S) (p := (e.ls, e.xs)) (List.mem_map_of_mem (f := fun e : Hd.Ent => (e.ls, e.xs)) he)) hct
    cases hth : Hd.there e.xs s.f0 with
    | true => exact head_put.over base hb mb win S Am cm m s W hH hm hR hok e he hel hl hth
    | false => exact head_put.add base hb mb win S Am cm m s W hH hm hR hok e he hel hl hth hct
set_option maxHeartbeats 8000000 in
set_option maxRecDepth 100000 in
theorem head_Put.calls {base hb mb : Nat} {win : Int} {S : List Hd.Ent} (low : Int) (A : Option Addr) (c : Nat) (rows : List S46) (w : World) (hH : Hd.HR base hb mb win S w) (ok : Nat → Prop) (hF : Kd.F k46 w ok A rows.length rows) (hok : ∀ k, ok k → k < w.heap.size → ¬ Hd.Own hb mb S k)
    (L' : Hd.A) (hask : Hd.askF win low rows (Hd.abs S) = .ok L') (hct : Hd.cnt (Hd.abs S) + rows.length ≤ 1099511627776) :
    Calls Try.prog 72 #[.pointer (some ⟨hb, 0, none⟩), .slice A rows.length c] w fun e w' => e = .returned (.tuple #[]) ∧ ∃ S', Hd.HR base hb mb win S' w' ∧ Hd.abs S' = L' ∧ Hd.Fr (Hd.Own hb mb S) (Hd.Own hb mb S') w w' := by
  have HH := Aside0.mk hH
  have HF0 := Aside0.mk (Kd.F_bound hF)
  have HOK := Aside0.mk hok
  have HASK := Aside0.mk hask
  have HCT := Aside0.mk hct
  have hrl : rows.length ≤ 1099511627776 := by omega
  have hown : ∀ k, Hd.Own hb mb S k → k < w.heap.size := fun k hk => (hH.lt k hk).2
  clear hH hF hok hask hct hown
  go_enter Try.func72, Try.ntmps72
  go_wp2
  go_loopg [10] rows.length (fun kx v10 wr => ∃ (i : Nat) (S1 : List Hd.Ent), v10 = .int .i64 i ∧ i ≤ rows.length ∧ rows.length - i ≤ kx ∧ Aside0 (Hd.HR base hb mb win S1 wr) ∧ Aside0 (Hd.askF win low (rows.drop i) (Hd.abs S1) = .ok L') ∧ Aside0 (Hd.Fr (Hd.Own hb mb S) (Hd.Own hb mb S1) w wr) ∧ Aside0 (Hd.cnt (Hd.abs S1) + (rows.length - i) ≤ 1099511627776))
  case atStart => exact ⟨0, S, rfl, Nat.zero_le _, Nat.le_refl _, HH, HASK, ⟨Hd.Fr.refl _ _⟩, HCT⟩
  case round =>
    clear HH HASK HCT
    obtain ⟨i, S1, rfl, hi, hkx, HH1, HF, HFR, HCT1⟩ := hrel
    by_cases hlt : i < rows.length
    · have hltz : (i : Int) < (rows.length : Int) := by omega
      have hi0 : (0 : Int) ≤ (i : Int) := by omega
      have hFr := Kd.F_now (Kd.F_step HF0.out (W1 := wr) (fun k hk hlt => HFR.out.blk k hlt (HOK.out k hk.1 hlt)))
      obtain ⟨ad, A1, c1, hA, y0, y1, y2, hc1, hC1⟩ := at_T46 hFr (i : Int) hi0 hltz
      subst hA
      have hrd : rd_T46 rows (i : Int) = rows[i] := by unfold rd_T46; simp [hlt]
      obtain ⟨x, hx⟩ : ∃ x, x = rows[i] := ⟨_, rfl⟩
      rw [hrd, ← hx] at y0 y1 y2 hc1 hC1
      rw [Int.toNat_natCast] at y0 y1 y2
      have hask1 : (match Hd.rowF win low (Hd.abs S1) x with | .error e => Except.error e | .ok L2 => Hd.askF win low (rows.drop (i + 1)) L2) = Except.ok L' := by
        rw [← HF.out, List.drop_eq_getElem_cons hlt, ← hx]; rfl
      obtain ⟨L2, hrow⟩ : ∃ L2, Hd.rowF win low (Hd.abs S1) x = .ok L2 := by
        cases h : Hd.rowF win low (Hd.abs S1) x with
        | error e => rw [h] at hask1; cases hask1
        | ok L2 => exact ⟨L2, rfl⟩
      rw [hrow] at hask1
      obtain ⟨hok2, m, hm, hL2, _, _⟩ := Hd.rowF_ok HH1.out.ok hrow
      have HMK := Aside0.mk (fun W' (hb : Below wr.heap.size wr W') => labels_Make.calls A1 c1 x.f0 W' (Kd.C_below hC1 hb) hc1)
      have HA1 := Aside0.mk hask1
      have HM := Aside0.mk hm
      have HL2 := Aside0.mk hL2
      have HOK2 := Aside0.mk hok2
      have him : i ≤ 9223372036854775806 := by omega
      clear hFr hrd hx hc1 hC1 hask1 hrow hok2 hm hL2
      obtain ⟨xl, hxl⟩ : ∃ xl, xl = x.f0.length := ⟨_, rfl⟩
      obtain ⟨s, hs⟩ : ∃ s, s = x.f1 := ⟨_, rfl⟩
      rw [← hxl] at HMK y0
      rw [← hs] at y1 y2 HL2
      clear hxl hs
      go_upto_region 3 with fail
      refine cwp_world ?_
      intro W4 hW4
      obtain ⟨g4, hg4⟩ : ∃ g4, g4 = wr.heap.size := ⟨_, rfl⟩
      have hb4 : Below wr.heap.size wr W4 := by rw [hW4]; exact below_alloc (Below.refl _ _) _
      have HBK4 := Aside0.mk (show W4.heap[g4]? = some (.cells #[.slice A1 xl c1, .int .i64 s.f0, .int .i64 s.f1] 46 (0, 0)) by rw [hW4, hg4]; exact blk_new _ _)
      have q0 : W4.cell? ⟨g4, 0, none⟩ = some (.slice A1 xl c1) := (blk_cell HBK4.out 0).trans rfl
      have HMK4 := Aside0.mk (HMK.out W4 hb4)
      have HB4 := Aside0.mk hb4
      have HMD := Aside0.mk (Hl.mk_made HM.out).1
      rw [← hg4]
      clear hW4 hg4 hb4 y0 y1 y2 HMK
      go_upto_region 5 with (go_at_call 101; (with_reducible refine HMK4.out.mono ?_); rintro e W5 ⟨hb5, hp⟩; rw [HM.out] at hp; dsimp only at hp; obtain ⟨mv, he, hr⟩ := hp; subst he; obtain ⟨Am, cm, ev⟩ := Kd.R_slice hr; subst ev; have HRM := Aside0.mk hr; have HB5 := Aside0.mk (below_step HB4.out hb5); have HBK5 := Aside0.mk (blk_below HBK4.out hb5); clear hb5 hr)
      have q1 := (blk_cell HBK5.out 1).trans (show (#[.slice A1 xl c1, .int .i64 s.f0, .int .i64 s.f1] : Array Value)[1]? = some (.int .i64 s.f0) from rfl)
      have q2 := (blk_cell HBK5.out 2).trans (show (#[.slice A1 xl c1, .int .i64 s.f0, .int .i64 s.f1] : Array Value)[2]? = some (.int .i64 s.f1) from rfl)
      have HH5 := Aside0.mk (HH1.out.below HB5.out)
      have hbase : base ≤ W4.heap.size := by
        have h1 := HH1.out.lt hb (.inl rfl)
        have h2 := HB4.out.size
        omega
      have HLV := Aside0.mk (show ∀ k, (Value.slice Am m.length cm).ownBlock = some k → wr.heap.size ≤ k from fun k hk => Nat.le_trans HB4.out.size (Kd.R_base HRM.out k hk))
      have HPUT := Aside0.mk (head_put.calls base hb mb win S1 Am cm m s W5 HH5.out HMD.out (Kd.R_lower HRM.out hbase) (by rw [← HL2.out]; exact HOK2.out) (by have := HCT1.out; omega))
      clear HMK4 HBK4 HRM hbase
      go_wp2_with (go_at_call 115; (with_reducible refine HPUT.out.mono ?_); rintro e W6 ⟨rfl, S2, hh6, habs6, hfr6⟩; have HH6 := Aside0.mk hh6; have HA6 := Aside0.mk habs6; have HFR6 := Aside0.mk hfr6; clear hh6 habs6 hfr6)
      go_roundg (rows.length - (i + 1))
      case measure => omega
      case rel =>
        refine ⟨i + 1, S2, by go_num, hlt, Nat.le_refl _, HH6, ⟨?_⟩, ⟨?_⟩, ⟨?_⟩⟩
        · rw [HA6.out, ← HL2.out]
          exact HA1.out
        · have h1 : Hd.Fr (Hd.Own hb mb S) (fun k => Hd.Own hb mb S1 k ∨ (Value.slice Am m.length cm).ownBlock = some k) w W5 :=
            (HFR.out.trans (Hd.Fr.of_below HB5.out)).mono (fun k hk => by
              rcases hk with hk | hk
              · exact .inl hk
              · exact .inr (Nat.le_trans HFR.out.size (HLV.out k hk)))
          exact h1.trans HFR6.out
        · rw [HA6.out]
          have h1 := Hd.cnt_putL HH1.out.ok.sorted m s
          have h2 := HCT1.out
          omega
    · have hltz : ¬ (i : Int) < (rows.length : Int) := by omega
      go_wp2_with fail
      go_end0
      refine ⟨rfl, S1, HH1.out, ?_, HFR.out⟩
      have := HF.out
      rw [List.drop_of_length_le (show rows.length ≤ i by omega)] at this
      injection this
set_option maxHeartbeats 8000000 in
set_option maxRecDepth 100000 in
theorem head_Write.calls {base hb mb : Nat} {win : Int} {S : List Hd.Ent} (A : Option Addr) (c : Nat) (rows : List S46) (w : World) (hH : Hd.HR base hb mb win S w) (ok : Nat → Prop) (hF : Kd.F k46 w ok A rows.length rows) (hok : ∀ k, ok k → k < w.heap.size → ¬ Hd.Own hb mb S k) (hc : rows.length ≤ c)
    (hct : Hd.cnt (Hd.abs S) + 200 ≤ 1099511627776) :
    Calls Try.prog 23 #[.pointer (some ⟨hb, 0, none⟩), .slice A rows.length c] w fun e w' => e = .returned (.int .i64 (Hd.writeF win (Hd.abs S) rows).1) ∧ ∃ S', Hd.HR base hb mb win S' w' ∧ Hd.abs S' = (Hd.writeF win (Hd.abs S) rows).2 ∧ Hd.Fr (Hd.Own hb mb S) (Hd.Own hb mb S') w w' := by
  have HMAY := Aside0.mk (head_May.calls A c rows w hH (Kd.F_now hF) hc)
  have HH := Aside0.mk hH
  have HF0 := Aside0.mk hF
  have HOK := Aside0.mk hok
  by_cases hcode : Hd.askC win (-Hd.maxT) rows (Hd.abs S) = 0
  · have hW : ¬ rows.length = 0 ∧ ¬ 200 < rows.length ∧ ∃ L', Hd.askF win (-Hd.maxT) rows (Hd.abs S) = .ok L' ∧ Hd.writeF win (Hd.abs S) rows = (0, L') := by
      unfold Hd.askC at hcode
      unfold Hd.writeF
      by_cases h1 : rows.length = 0
      · rw [if_pos h1] at hcode; omega
      · rw [if_neg h1] at hcode ⊢
        by_cases h2 : 200 < rows.length
        · rw [if_pos h2] at hcode; omega
        · rw [if_neg h2] at hcode ⊢
          refine ⟨h1, h2, ?_⟩
          cases h3 : Hd.askF win (-Hd.maxT) rows (Hd.abs S) with
          | error c => rw [h3] at hcode; exact absurd hcode (Hd.askF_err h3)
          | ok L' => exact ⟨L', rfl, rfl⟩
    obtain ⟨h1, h2, L', h3, h4⟩ := hW
    have HPUT := Aside0.mk (fun W (hb' : Below w.heap.size w W) => head_Put.calls (-Hd.maxT) A c rows W (HH.out.below hb') (fun k => ok k ∧ k < w.heap.size) (Kd.F_below (Kd.F_bound HF0.out) hb') (fun k hk _ => HOK.out k hk.1 hk.2) L' h3 (by omega))
    have HWF := Aside0.mk h4
    rw [hcode] at HMAY
    clear hH hF hok hct hc hcode h1 h2 h3 h4
    go_enter Try.func23, Try.ntmps23
    go_wp2_with (first | (go_at_call 37; (with_reducible refine HMAY.out.mono ?_); rintro e W1 ⟨rfl, hb1⟩; have HB1 := Aside0.mk hb1; clear hb1) | (go_at_call 72; (with_reducible refine (HPUT.out _ HB1.out).mono ?_); rintro e W2 ⟨rfl, S', hh2, ha2, hf2⟩; have HH2 := Aside0.mk hh2; have HA2 := Aside0.mk ha2; have HF2 := Aside0.mk hf2; clear hh2 ha2 hf2))
    go_ret
    exact ⟨by rw [HWF.out]; rfl, S', HH2.out, by rw [HWF.out]; exact HA2.out, (Hd.Fr.of_below HB1.out).trans HF2.out⟩
  · have HWF := Aside0.mk (show Hd.writeF win (Hd.abs S) rows = (Hd.askC win (-Hd.maxT) rows (Hd.abs S), Hd.abs S) from by
      unfold Hd.askC at hcode ⊢
      unfold Hd.writeF
      by_cases h1 : rows.length = 0
      · rw [if_pos h1, if_pos h1]
      · rw [if_neg h1] at hcode
        rw [if_neg h1, if_neg h1]
        by_cases h2 : 200 < rows.length
        · rw [if_pos h2, if_pos h2]
        · rw [if_neg h2] at hcode
          rw [if_neg h2, if_neg h2]
          cases h3 : Hd.askF win (-Hd.maxT) rows (Hd.abs S) with
          | error c => rfl
          | ok L' => rw [h3] at hcode; exact absurd rfl hcode)
    obtain ⟨cv, hcv⟩ : ∃ cv, cv = Hd.askC win (-Hd.maxT) rows (Hd.abs S) := ⟨_, rfl⟩
    rw [← hcv] at HMAY HWF hcode
    have hcz : (cv != 0) = true := bne_iff_ne.2 hcode
    clear hH hF hok hct hc hcv
    go_enter Try.func23, Try.ntmps23
    go_wp2_with (first | (go_at_call 37; (with_reducible refine HMAY.out.mono ?_); rintro e W1 ⟨rfl, hb1⟩; have HB1 := Aside0.mk hb1; clear hb1))
    go_ret
    exact ⟨by rw [HWF.out]; rfl, S, HH.out.below HB1.out, by rw [HWF.out], Hd.Fr.of_below HB1.out⟩
end
end Go.Proofs.Ytcgocdhffcnleaa.PHead

/- A part of the proofs about the head: see the theorems' own lines. -/
namespace Go.Proofs.Ytcgocdhffcnleaa.PHead
open Go Go.RowKit Go.Proofs.YtcgocdhffcnleaaW.PrintWords Go.Proofs.YtcgocdhffcnleaaW.PrintLast Go.Proofs.YtcgocdhffcnleaaW.PrintMore Go.Proofs.Ytcgocdhffcnleaa.XB Go.Proofs.Ytcgocdhffcnleaa.PHeadPlays Go.Proofs.Ytcgocdhffcnleaa.XH
set_option linter.unusedVariables false
set_option linter.unusedSimpArgs false
/-! ### writing rows that were just laid -/
section
theorem rowsF {W : World} {g : Nat} {fr : List (Value × S46)} (hg : W.heap[g]? = some (.cells ((fr.flatMap fun q => [q.1, .int .i64 q.2.f1.f0, .int .i64 q.2.f1.f1]).toArray) 46 (0, 0))) {N : Nat}
    (hl : fr.length ≤ 9223372036854775807) (hr : ∀ q ∈ fr, k53.R 53 W N (fun _ => True) q.1 q.2.f0) : Kd.F k46 W (fun k => k = g ∨ ∃ q ∈ fr, q.1.ownBlock = some k) (some ⟨g, 0, none⟩) fr.length (fr.map (·.2)) := by
  intro W' hW
  refine ⟨by rw [List.length_map], hl, fun hp => ⟨_, rfl, fun j x hj => ?_⟩⟩
  rw [List.getElem?_map] at hj
  obtain ⟨q, hq, hqx⟩ := Option.map_eq_some_iff.1 hj
  have hqm : q ∈ fr := List.mem_of_getElem? hq
  have hr' : k53.R 53 W' N (fun _ => True) q.1 q.2.f0 := Hd.R53_move (hr q hqm) (fun k hk => hW k (.inr ⟨q, hqm, hk⟩) (by
    obtain ⟨inner, ho⟩ := Kd.R_own (hr q hqm)
    exact own_lt ho k hk))
  obtain ⟨A, c, ev, hc, hC⟩ := Kd.R_reads hr'
  have hg' : W'.heap[g]? = some (.cells ((fr.flatMap fun q => [q.1, .int .i64 q.2.f1.f0, .int .i64 q.2.f1.f1]).toArray) 46 (0, 0)) := (hW g (.inl rfl) (blk_lt hg)).trans hg
  have hcells : ∀ (fr : List (Value × S46)) (j : Nat), fr[j]? = some q → ∀ i u, [q.1, Value.int .i64 q.2.f1.f0, .int .i64 q.2.f1.f1][i]? = some u → (fr.flatMap fun q => [q.1, Value.int .i64 q.2.f1.f0, .int .i64 q.2.f1.f1])[j * 3 + i]? = some u := by
    intro fr
    induction fr with
    | nil => intro j h; simp at h
    | cons a fr ih =>
      intro j h i u hu
      rw [List.flatMap_cons]
      cases j with
      | zero =>
        have : a = q := by simpa using h
        subst this
        have hi : i < 3 := by
          have := (List.getElem?_eq_some_iff.1 hu).1
          simpa using this
        rw [Nat.zero_mul, Nat.zero_add, List.getElem?_append_left (by simpa using hi)]
        exact hu
      | succ j =>
        rw [List.getElem?_append_right (by simp; omega)]
        have := ih j (by simpa using h) i u hu
        rw [show (j + 1) * 3 + i - [a.1, Value.int .i64 a.2.f1.f0, .int .i64 a.2.f1.f1].length = j * 3 + i by simp; omega]
        exact this
  refine ⟨[q.1, .int .i64 q.2.f1.f0, .int .i64 q.2.f1.f1], rfl, ?_, fun i u hu => ?_⟩
  · rw [← hqx, ev]
    exact k46_mk W' q.2 hc hC
  · rw [add_plain, show k46.sz = 3 from rfl, blk_cell hg']
    have := hcells fr j hq i u hu
    simpa using this
theorem head_Write.laid {base hb mb : Nat} {win : Int} {S : List Hd.Ent} {W0 W1 : World} (hH : Hd.HR base hb mb win S W0) (hB : Below W0.heap.size W0 W1) {fr : List (Value × S46)} {N : Nat} (hN : W0.heap.size ≤ N) (hr : ∀ q ∈ fr, k53.R 53 W1 N (fun _ => True) q.1 q.2.f0) (hl : fr.length ≤ 1099511627776) (hct : Hd.cnt (Hd.abs S) + 200 ≤ 1099511627776) :
    Calls Try.prog 23 #[.pointer (some ⟨hb, 0, none⟩), .slice (some ⟨W1.heap.size, 0, none⟩) fr.length fr.length] (W1.alloc (.cells ((fr.flatMap fun q => [q.1, .int .i64 q.2.f1.f0, .int .i64 q.2.f1.f1]).toArray) 46)) fun e w' => e = .returned (.int .i64 (Hd.writeF win (Hd.abs S) (fr.map (·.2))).1) ∧ ∃ S', Hd.HR base hb mb win S' w' ∧ Hd.abs S' = (Hd.writeF win (Hd.abs S) (fr.map (·.2))).2 ∧ Hd.Fr (Hd.Own hb mb S) (Hd.Own hb mb S') W0 w' := by
  have hb2 : Below W1.heap.size W1 (W1.alloc (.cells ((fr.flatMap fun q => [q.1, .int .i64 q.2.f1.f0, .int .i64 q.2.f1.f1]).toArray) 46)) := below_alloc (Below.refl _ _) _
  have hb3 := below_step hB hb2
  have hf := rowsF (W := W1.alloc (.cells ((fr.flatMap fun q => [q.1, .int .i64 q.2.f1.f0, .int .i64 q.2.f1.f1]).toArray) 46)) (g := W1.heap.size) (fr := fr) (N := N) (blk_new _ _) (by omega) (fun q hq => Kd.R_below (hr q hq) hb2)
  have hlm : (fr.map (·.2)).length = fr.length := List.length_map ..
  rw [← hlm] at hf
  have hw := head_Write.calls (some ⟨W1.heap.size, 0, none⟩) fr.length (fr.map (·.2)) _ (hH.below hb3) _ hf (fun k hk hlt ho => by
    have h1 := (hH.lt k ho).2
    rcases hk with h2 | ⟨q, hq, h2⟩
    · have := hB.size
      omega
    · have := Kd.R_base (hr q hq) k h2
      omega) (by rw [hlm]; exact Nat.le_refl _) hct
  rw [hlm] at hw
  refine hw.mono ?_
  rintro e w' ⟨he, S', h1, h2, h3⟩
  exact ⟨he, S', h1, h2, (Hd.Fr.of_below hb3).trans h3⟩
/-! #### the example's rows, in plain lists -/
def Hd.lab (s : ByteArray) : List S53 := [⟨⟨#[97]⟩, s⟩]
theorem Hd.mk_lab {s : ByteArray} (h0 : s.size ≠ 0) (h64 : s.size ≤ 64) : Hl.mk (Hd.lab s) = some (Hd.lab s) := by
  have h1 : Hl.okL ⟨⟨#[97]⟩, s⟩ = true := by
    unfold Hl.okL
    show (labels_Name.ok (⟨#[97]⟩ : ByteArray) && s.size != 0 && decide (s.size ≤ 64)) = true
    rw [show labels_Name.ok (⟨#[97]⟩ : ByteArray) = true from by decide, decide_eq_true h64, bne_iff_ne.2 h0]
    rfl
  unfold Hl.mk Hd.lab
  rw [if_neg (by simp)]
  show (if Hl.okL ⟨⟨#[97]⟩, s⟩ = true then (Hl.ins ⟨⟨#[97]⟩, s⟩ []).bind (Hl.mkf []) else none) = _
  rw [if_pos h1]
  rfl
/-- One row of a series, written. -/
theorem Hd.writeF_one {win : Int} {L : Hd.A} {s : ByteArray} (h0 : s.size ≠ 0) (h64 : s.size ≤ 64) (t v : Int) (ht : -9007199254740992 ≤ t ∧ t ≤ 9007199254740992) :
    Hd.writeF win L [⟨Hd.lab s, ⟨t, v⟩⟩] = match Hd.find L (Hd.lab s) with
      | some xs => if t < Hd.lastT xs - win then (22, L) else (0, Hd.putL L (Hd.lab s) ⟨t, v⟩)
      | none => if 1000 ≤ L.length then (2, L) else (0, Hd.putL L (Hd.lab s) ⟨t, v⟩) := by
  unfold Hd.writeF
  rw [if_neg (by simp), if_neg (by simp)]
  have hrow : Hd.rowF win (-Hd.maxT) L ⟨Hd.lab s, ⟨t, v⟩⟩ = match Hd.find L (Hd.lab s) with
      | some xs => if t < Hd.lastT xs - win then .error 22 else .ok (Hd.putL L (Hd.lab s) ⟨t, v⟩)
      | none => if 1000 ≤ L.length then .error 2 else .ok (Hd.putL L (Hd.lab s) ⟨t, v⟩) := by
    unfold Hd.rowF
    show (match Hl.mk (Hd.lab s) with | none => _ | some m => _) = _
    rw [Hd.mk_lab h0 h64]
    simp only
    rw [if_neg (by unfold Hd.maxT; omega), if_neg (by unfold Hd.maxT; omega)]
    split <;> rename_i h <;> rw [h]
  show (match (match Hd.rowF win (-Hd.maxT) L ⟨Hd.lab s, ⟨t, v⟩⟩ with | .error e => Except.error e | .ok L' => Hd.askF win (-Hd.maxT) [] L') with | .error e => (e, L) | .ok L' => (0, L')) = _
  rw [hrow]
  cases hf : Hd.find L (Hd.lab s) with
  | none =>
    by_cases hc : 1000 ≤ L.length
    · simp only [if_pos hc]
    · simp only [if_neg hc]
      rfl
  | some xs =>
    by_cases hc : t < Hd.lastT xs - win
    · simp only [if_pos hc]
    · simp only [if_neg hc]
      rfl
end
/-! ### the example of the document; HeadWindow -/
section
theorem head_Write.laid1 {base hb mb : Nat} {win : Int} {S : List Hd.Ent} {W0 W1 : World} (hH : Hd.HR base hb mb win S W0) (hB : Below W0.heap.size W0 W1) {A : Option Addr} {c N : Nat} {s : ByteArray} {t v : Int} (hN : W0.heap.size ≤ N) (hr : k53.R 53 W1 N (fun _ => True) (.slice A 1 c) (Hd.lab s)) (hct : Hd.cnt (Hd.abs S) + 200 ≤ 1099511627776) :
    Calls Try.prog 23 #[.pointer (some ⟨hb, 0, none⟩), .slice (some ⟨W1.heap.size, 0, none⟩) 1 1] (W1.alloc (.cells #[.slice A 1 c, .int .i64 t, .int .i64 v] 46)) fun e w' => e = .returned (.int .i64 (Hd.writeF win (Hd.abs S) [⟨Hd.lab s, ⟨t, v⟩⟩]).1) ∧ ∃ S', Hd.HR base hb mb win S' w' ∧ Hd.abs S' = (Hd.writeF win (Hd.abs S) [⟨Hd.lab s, ⟨t, v⟩⟩]).2 ∧ Hd.Fr (Hd.Own hb mb S) (Hd.Own hb mb S') W0 w' :=
  head_Write.laid hH hB (fr := [(.slice A 1 c, ⟨Hd.lab s, ⟨t, v⟩⟩)]) hN (fun q hq => by
    have : q = (.slice A 1 c, ⟨Hd.lab s, ⟨t, v⟩⟩) := by simpa using hq
    rw [this]; exact hr) (by simp) hct
theorem head_Write.laid2 {base hb mb : Nat} {win : Int} {S : List Hd.Ent} {W0 W1 : World} (hH : Hd.HR base hb mb win S W0) (hB : Below W0.heap.size W0 W1) {A A' : Option Addr} {c c' N : Nat} {s s' : ByteArray} {t v t' v' : Int} (hN : W0.heap.size ≤ N) (hr : k53.R 53 W1 N (fun _ => True) (.slice A 1 c) (Hd.lab s)) (hr' : k53.R 53 W1 N (fun _ => True) (.slice A' 1 c') (Hd.lab s')) (hct : Hd.cnt (Hd.abs S) + 200 ≤ 1099511627776) :
    Calls Try.prog 23 #[.pointer (some ⟨hb, 0, none⟩), .slice (some ⟨W1.heap.size, 0, none⟩) 2 2] (W1.alloc (.cells #[.slice A 1 c, .int .i64 t, .int .i64 v, .slice A' 1 c', .int .i64 t', .int .i64 v'] 46)) fun e w' => e = .returned (.int .i64 (Hd.writeF win (Hd.abs S) [⟨Hd.lab s, ⟨t, v⟩⟩, ⟨Hd.lab s', ⟨t', v'⟩⟩]).1) ∧ ∃ S', Hd.HR base hb mb win S' w' ∧ Hd.abs S' = (Hd.writeF win (Hd.abs S) [⟨Hd.lab s, ⟨t, v⟩⟩, ⟨Hd.lab s', ⟨t', v'⟩⟩]).2 ∧ Hd.Fr (Hd.Own hb mb S) (Hd.Own hb mb S') W0 w' :=
  head_Write.laid hH hB (fr := [(.slice A 1 c, ⟨Hd.lab s, ⟨t, v⟩⟩), (.slice A' 1 c', ⟨Hd.lab s', ⟨t', v'⟩⟩)]) hN (fun q hq => by
    rcases List.mem_cons.1 hq with h | h
    · rw [h]; exact hr
    · have : q = (.slice A' 1 c', ⟨Hd.lab s', ⟨t', v'⟩⟩) := by simpa using h
      rw [this]; exact hr') (by simp) hct
theorem row_calls (s : ByteArray) (t v : Int) (W : World) : Calls Try.prog 24 #[.string s, .int .i64 t, .int .i64 v] W fun e w' => ∃ (A : Option Addr) (c : Nat), e = .returned (.agg #[.slice A 1 c, .int .i64 t, .int .i64 v]) ∧ k53.R 53 w' W.heap.size (fun _ => True) (.slice A 1 c) (Hd.lab s) ∧ Below W.heap.size W w' := by
  refine (lysimeterlaw13_Row.calls s t v (Hd.lab s) t v W rfl).mono ?_
  rintro e w' ⟨v0, rfl, hr, hb⟩
  obtain ⟨A, c, ev⟩ := Kd.R_slice hr
  have ev' : v0 = .slice A 1 c := ev
  subst ev'
  exact ⟨A, c, rfl, hr, hb⟩
theorem num_calls (a : Int) (W : World) : Calls Try.prog 25 #[.int .i64 a] W fun e w' => e = .returned (.int .i64 a) ∧ Below W.heap.size W w' :=
  (lysimeterlaw13_num.calls a a W rfl).mono fun e w' h => ⟨h.1, h.2.below⟩
def Hd.sx : ByteArray := ⟨#[120]⟩
def Hd.sy : ByteArray := ⟨#[121]⟩
theorem Hd.find_hit (l : List S53) (xs : List S44) (L : Hd.A) : Hd.find ((l, xs) :: L) l = some xs := by rw [Hd.find, if_pos (Hd.lcl_self _)]
theorem Hd.write0 (win t v : Int) {s : ByteArray} (h0 : s.size ≠ 0) (h64 : s.size ≤ 64) (ht : -9007199254740992 ≤ t ∧ t ≤ 9007199254740992) : Hd.writeF win [] [⟨Hd.lab s, ⟨t, v⟩⟩] = (0, [(Hd.lab s, [⟨t, v⟩])]) := by
  rw [Hd.writeF_one h0 h64 t v ht]
  rfl
theorem Hd.put1 (l : List S53) (a s : S44) : Hd.putL [(l, [a])] l s = [(l, Hd.putS [a] s)] := by
  unfold Hd.putL
  rw [Hd.find_hit]
  show Hd.setA [(l, [a])] l (Hd.putS [a] s) = _
  rw [Hd.setA, if_pos (Hd.lcl_self _)]
theorem Hd.alive2 : Hd.writeF 10 [(Hd.lab Hd.sx, [⟨100, 1⟩])] [⟨Hd.lab Hd.sx, ⟨95, 2⟩⟩, ⟨Hd.lab Hd.sx, ⟨89, 3⟩⟩] = (22, [(Hd.lab Hd.sx, [⟨100, 1⟩])]) := by
  have hm := Hd.mk_lab (s := Hd.sx) (by decide) (by decide)
  have h1 : Hd.rowF 10 (-Hd.maxT) [(Hd.lab Hd.sx, [⟨100, 1⟩])] ⟨Hd.lab Hd.sx, ⟨95, 2⟩⟩ = .ok [(Hd.lab Hd.sx, [⟨95, 2⟩, ⟨100, 1⟩])] := by
    unfold Hd.rowF
    simp only [hm, Hd.find_hit]
    rw [if_neg (by decide), if_neg (by decide), if_neg (by decide), Hd.put1]
    rfl
  have h2 : Hd.rowF 10 (-Hd.maxT) [(Hd.lab Hd.sx, [⟨95, 2⟩, ⟨100, 1⟩])] ⟨Hd.lab Hd.sx, ⟨89, 3⟩⟩ = .error 22 := by
    unfold Hd.rowF
    simp only [hm, Hd.find_hit]
    rw [if_neg (by decide), if_neg (by decide), if_pos (by decide)]
  unfold Hd.writeF
  rw [if_neg (by decide), if_neg (by decide)]
  simp only [Hd.askF, h1, h2]
end
/-! ### the example's walk -/
section
theorem head_Write.one {base hb mb : Nat} {win : Int} {S : List Hd.Ent} {W0 W1 : World} (hH : Hd.HR base hb mb win S W0) (hB : Below W0.heap.size W0 W1) {A : Option Addr} {c : Nat} {s : ByteArray} {t v r : Int} {L L' : Hd.A} (hr : k53.R 53 W1 W0.heap.size (fun _ => True) (.slice A 1 c) (Hd.lab s)) (hS : Hd.abs S = L) (hct : Hd.cnt L + 200 ≤ 1099511627776)
    (E : Hd.writeF win L [⟨Hd.lab s, ⟨t, v⟩⟩] = (r, L')) :
    Calls Try.prog 23 #[.pointer (some ⟨hb, 0, none⟩), .slice (some ⟨W1.heap.size, 0, none⟩) 1 1] (W1.alloc (.cells #[.slice A 1 c, .int .i64 t, .int .i64 v] 46)) fun e w' => e = .returned (.int .i64 r) ∧ ∃ S', Hd.HR base hb mb win S' w' ∧ Hd.abs S' = L' ∧ Below base W0 w' := by
  subst hS
  refine (head_Write.laid1 hH hB (Nat.le_refl _) hr hct).mono ?_
  rw [E]
  rintro e w' ⟨h1, S', h2, h3, h4⟩
  exact ⟨h1, S', h2, h3, Hd.Fr.below h4 (fun k hk => (hH.lt k hk).1) (Nat.le_trans hH.lo.1 (Nat.le_of_lt (blk_lt hH.head)))⟩
theorem head_Write.two {base hb mb : Nat} {win : Int} {S : List Hd.Ent} {W0 W1 : World} (hH : Hd.HR base hb mb win S W0) (hB : Below W0.heap.size W0 W1) {A A' : Option Addr} {c c' : Nat} {s s' : ByteArray} {t v t' v' r : Int} {L L' : Hd.A} (hr : k53.R 53 W1 W0.heap.size (fun _ => True) (.slice A 1 c) (Hd.lab s)) (hr' : k53.R 53 W1 W0.heap.size (fun _ => True) (.slice A' 1 c') (Hd.lab s')) (hS : Hd.abs S = L) (hct : Hd.cnt L + 200 ≤ 1099511627776)
    (E : Hd.writeF win L [⟨Hd.lab s, ⟨t, v⟩⟩, ⟨Hd.lab s', ⟨t', v'⟩⟩] = (r, L')) :
    Calls Try.prog 23 #[.pointer (some ⟨hb, 0, none⟩), .slice (some ⟨W1.heap.size, 0, none⟩) 2 2] (W1.alloc (.cells #[.slice A 1 c, .int .i64 t, .int .i64 v, .slice A' 1 c', .int .i64 t', .int .i64 v'] 46)) fun e w' => e = .returned (.int .i64 r) ∧ ∃ S', Hd.HR base hb mb win S' w' ∧ Hd.abs S' = L' ∧ Below base W0 w' := by
  subst hS
  refine (head_Write.laid2 hH hB (Nat.le_refl _) hr hr' hct).mono ?_
  rw [E]
  rintro e w' ⟨h1, S', h2, h3, h4⟩
  exact ⟨h1, S', h2, h3, Hd.Fr.below h4 (fun k hk => (hH.lt k hk).1) (Nat.le_trans hH.lo.1 (Nat.le_of_lt (blk_lt hH.head)))⟩
set_option maxHeartbeats 8000000 in
set_option maxRecDepth 100000 in
theorem head_alive.calls (w : World) : Calls Try.prog 21 #[] w fun e w' => e = .returned (.bool true) ∧ Below w.heap.size w w' := by
  have HROW := Aside0.mk row_calls
  have HNUM := Aside0.mk num_calls
  have HNEW := Aside0.mk (head_New.calls 10)
  rw [show min (max (0 : Int) 10) 9007199254740992 = 10 by decide] at HNEW
  have E1 := Aside0.mk (Hd.write0 10 100 1 (s := Hd.sx) (by decide) (by decide) (by decide))
  have E2 := Aside0.mk Hd.alive2
  go_enter Try.func21, Try.ntmps21
  go_upto_region 4 with (go_at_call 22; (with_reducible refine (HNEW.out _).mono ?_); rintro e W1 ⟨hb, mb, rfl, hh1, hb1⟩; have HH1 := Aside0.mk hh1; have HB1 := Aside0.mk hb1; clear hh1 hb1)
  go_upto_region 5 with (first
    | (go_at_call 24; (with_reducible refine (HROW.out _ _ _ _).mono ?_); rintro e W2 ⟨A, c, rfl, hr, hb⟩; have HR2 := Aside0.mk hr; have HB2 := Aside0.mk hb; clear hr hb)
    | (go_at_call 23; (refine (head_Write.one HH1.out HB2.out HR2.out rfl (by show 0 + 200 ≤ _; omega) E1.out).mono ?_); rintro e W4 ⟨rfl, S2, hh2, he2, hf2⟩; have HE2 := Aside0.mk he2; have HH2 := Aside0.mk hh2; have HF2 := Aside0.mk (Below.trans HB1.out hf2); clear hh2 hf2 he2))
  go_upto_region 6 with (first
    | (go_at_call 24; (with_reducible refine (HROW.out _ 95 _ _).mono ?_); rintro e W5 ⟨A5, c5, rfl, hr, hb⟩; have HR5 := Aside0.mk hr; have HB5 := Aside0.mk hb; clear hr hb)
    | (go_at_call 23; (refine (head_Write.two HH2.out (below_step HB5.out HB6.out) (Kd.R_below HR5.out HB6.out) (Kd.R_lower HR6.out HB5.out.size) HE2.out (by decide) E2.out).mono ?_); rintro e W7 ⟨rfl, S3, hh2, he2, hf2⟩; have HE3 := Aside0.mk he2; have HH3 := Aside0.mk hh2; have HF3 := Aside0.mk (Below.trans HF2.out hf2); clear hh2 hf2 he2)
    | (go_at_call 24; (with_reducible refine (HROW.out _ 89 _ _).mono ?_); rintro e W6 ⟨A6, c6, rfl, hr, hb⟩; have HR6 := Aside0.mk hr; have HB6 := Aside0.mk hb; clear hr hb))
  go_wp2_with (first
    | (go_at_call 25; (with_reducible refine (HNUM.out 0 _).mono ?_); rintro e W8 ⟨rfl, hb⟩; have HB8 := Aside0.mk hb; clear hb)
    | (go_at_call 25; (with_reducible refine (HNUM.out 22 _).mono ?_); rintro e W9 ⟨rfl, hb⟩; have HB9 := Aside0.mk hb; clear hb)
    | (go_at_call 30; (refine (head_Count.calls ((HH3.out.below HB8.out).below HB9.out)).mono ?_); rintro e W10 ⟨rfl, rfl⟩; rw [HE3.out, show Hd.cnt [(Hd.lab Hd.sx, [(⟨100, 1⟩ : S44)])] = 1 from rfl]))
  go_ret
  exact ⟨rfl, below_step (below_step HF3.out HB8.out) HB9.out⟩
end
/-! ### HeadWindow -/
section
end
end Go.Proofs.Ytcgocdhffcnleaa.PHead

/- A part of the proofs about the head: see the theorems' own lines. -/
namespace Go.Proofs.Ytcgocdhffcnleaa.PHead
open Go Go.RowKit Go.Proofs.YtcgocdhffcnleaaW.PrintWords Go.Proofs.YtcgocdhffcnleaaW.PrintLast Go.Proofs.YtcgocdhffcnleaaW.PrintMore Go.Proofs.Ytcgocdhffcnleaa.XB Go.Proofs.Ytcgocdhffcnleaa.PHeadPlays Go.Proofs.Ytcgocdhffcnleaa.XH
set_option linter.unusedVariables false
set_option linter.unusedSimpArgs false
/-! ### Samples -/
section
set_option maxHeartbeats 8000000 in
set_option maxRecDepth 100000 in
theorem head_Samples.hit {base hb mb : Nat} {win : Int} {S : List Hd.Ent} {W : World} (h : Hd.HR base hb mb win S W) (A : Option Addr) (c : Nat) (l m : List S53) (hC : Kd.C k53 W A l.length l) (hc : l.length ≤ c) (hm : Hl.mk l = some m) {e : Hd.Ent} (he : e ∈ S) (hem : e.ls = m) (hl : e.xs.length ≤ 1099511627776) :
    Calls Try.prog 26 #[.pointer (some ⟨hb, 0, none⟩), .slice A l.length c] W fun e' w' => ∃ v, e' = .returned v ∧ Kd.R k44 44 w' W.heap.size (fun _ => True) v e.xs ∧ Below W.heap.size W w' := by
  have hs : keyOf Try.prog 9 (.string (Hl.txt l)) = some (Hd.key e.ls) := by
    obtain ⟨kl, h1, h2⟩ := Hd.keyOf_txt' l
    rcases h2 with ⟨m', h3, h4⟩ | ⟨h3, _⟩
    · rw [hm] at h3
      injection h3 with h3
      rw [h1, h4, ← h3, hem]
    · rw [hm] at h3; cases h3
  have HTX := Aside0.mk (labels_Text.calls A c l W.drew (Kd.C_below hC (below_drew1 (Below.refl _ _))) hc)
  have HH := Aside0.mk h
  have HE := Aside0.mk he
  have HS := Aside0.mk hs
  have HL := Aside0.mk hl
  obtain ⟨n, hn⟩ : ∃ n, n = l.length := ⟨_, rfl⟩
  rw [← hn] at HTX ⊢
  have z1 := (blk_cell h.head 1).trans (show (#[.int .i64 win, .map (some mb), .int .i64 (Hd.cnt (Hd.abs S) : Nat)] : Array Value)[1]? = some (.map (some mb)) from rfl)
  have hsam := (h.ent e he).sam
  have hblk := (h.ent e he).blk
  obtain ⟨As, cs, ev⟩ := Kd.R_slice hsam
  have y1 : W.cell? ⟨e.g, 1, none⟩ = some (.slice As e.xs.length cs) := by rw [← ev]; exact (blk_cell hblk 1).trans rfl
  rw [ev] at hsam
  have HSAM := Aside0.mk hsam
  obtain ⟨eg, heg⟩ : ∃ eg, eg = e.g := ⟨_, rfl⟩
  obtain ⟨ln, hln⟩ : ∃ n, n = e.xs.length := ⟨_, rfl⟩
  have HEG := Aside0.mk heg
  have HLN := Aside0.mk hln
  rw [← heg, ← hln] at y1
  clear h he hs hC hc hm hem hl hn hsam hblk ev heg hln
  go_enter Try.func26, Try.ntmps26
  go_upto_region 1 with fail
  go_region_with (go_at_call 62; (with_reducible refine HTX.out.mono ?_); rintro e_ W2 ⟨rfl, hb2'⟩; have hb2 := below_step (below_drew1 (Below.refl _ _)) hb2'; have z1' := pw_cell_below hb2 z1; have y1' := pw_cell_below hb2 y1; have HB2 := Aside0.mk hb2; have hlook := (HH.out.below hb2).look_hit HE.out HS.out; rw [← HEG.out] at hlook; clear hb2 hb2')
  all_goals (
    obtain ⟨_, hcs, hCs⟩ := Kd.R_reads' (Kd.R_below HSAM.out HB2.out)
    have HCL := Aside0.mk (api_Sample_73.calls As cs e.xs e.xs W2 hCs hcs (by unfold api_Sample_73.f; rw [if_pos (by have := HL.out; omega)]))
    rw [← HLN.out] at HCL
    clear hcs hCs
    go_wp2_with (go_at_call 73; (refine HCL.out.mono ?_); rintro e_ W3 ⟨v, rfl, hr, hb3⟩)
    go_ret
    exact ⟨v, rfl, Kd.R_lower hr HB2.out.size, below_step HB2.out hb3⟩)
set_option maxHeartbeats 8000000 in
set_option maxRecDepth 100000 in
theorem head_Samples.miss {base hb mb : Nat} {win : Int} {S : List Hd.Ent} {W : World} (h : Hd.HR base hb mb win S W) (A : Option Addr) (c : Nat) (l : List S53) (hC : Kd.C k53 W A l.length l) (hc : l.length ≤ c) {kl : Lit} (hs : keyOf Try.prog 9 (.string (Hl.txt l)) = some kl) (hk : ∀ e ∈ S, kl ≠ Hd.key e.ls) :
    Calls Try.prog 26 #[.pointer (some ⟨hb, 0, none⟩), .slice A l.length c] W fun e' w' => e' = .returned (.slice none 0 0) ∧ Below W.heap.size W w' := by
  have HTX := Aside0.mk (labels_Text.calls A c l W.drew (Kd.C_below hC (below_drew1 (Below.refl _ _))) hc)
  have HH := Aside0.mk h
  have HS := Aside0.mk hs
  have HK := Aside0.mk hk
  obtain ⟨n, hn⟩ : ∃ n, n = l.length := ⟨_, rfl⟩
  rw [← hn] at HTX ⊢
  have z1 := (blk_cell h.head 1).trans (show (#[.int .i64 win, .map (some mb), .int .i64 (Hd.cnt (Hd.abs S) : Nat)] : Array Value)[1]? = some (.map (some mb)) from rfl)
  clear h hs hk hC hc hn
  go_enter Try.func26, Try.ntmps26
  go_upto_region 1 with fail
  go_region_with (go_at_call 62; (with_reducible refine HTX.out.mono ?_); rintro e_ W2 ⟨rfl, hb2'⟩; have hb2 := below_step (below_drew1 (Below.refl _ _)) hb2'; have z1' := pw_cell_below hb2 z1; have HB2 := Aside0.mk hb2; have hlook := (HH.out.below hb2).look_miss HS.out HK.out; clear hb2 hb2')
  all_goals (
    go_wp2
    go_ret
    exact ⟨rfl, HB2.out⟩)
end
/-! ### HeadLast, in plain lists -/
section
namespace Hd
def xs (T V : Nat → Int) : Nat → List S44
  | 0 => []
  | i + 1 => putS (xs T V i) ⟨T i, V i⟩
def Lx (T V : Nat → Int) (i : Nat) : A := if i = 0 then [] else [(lab sx, xs T V i)]
def want (T V : Nat → Int) (t : Int) : Nat → Int × Bool
  | 0 => (0, false)
  | i + 1 => if T i = t then (V i, true) else want T V t i
theorem xs_len (T V : Nat → Int) : ∀ i, (xs T V i).length ≤ i
  | 0 => Nat.le_refl _
  | i + 1 => by have := xs_len T V i; have h := (putS_len (xs T V i) ⟨T i, V i⟩).2.2; show (putS _ _).length ≤ _; omega
theorem labC {W : World} {g : Nat} {s : ByteArray} (hg : W.heap[g]? = some (.cells #[.string ⟨#[97]⟩, .string s] 53 (0, 0))) : Kd.C k53 W (some ⟨g, 0, none⟩) 1 (lab s) := by
  refine ⟨rfl, by decide, fun _ => ⟨_, rfl, fun j x hj => ?_⟩⟩
  have hj0 : j = 0 := by
    have := (List.getElem?_eq_some_iff.1 hj).1
    have h2 : (lab s).length = 1 := rfl
    omega
  subst hj0
  have hx : x = ⟨⟨#[97]⟩, s⟩ := by
    have h2 : (lab s)[0]? = some ⟨⟨#[97]⟩, s⟩ := rfl
    rw [h2] at hj
    injection hj with hj
    exact hj.symm
  refine ⟨[.string ⟨#[97]⟩, .string s], rfl, ?_, fun i u hu => ?_⟩
  · rw [hx]
    exact k53_mk W _
  · rw [add_plain]
    simp only [Nat.zero_mul, Nat.zero_add]
    rw [blk_cell hg]
    simpa using hu
end Hd
theorem head_Samples.lx {base hb mb : Nat} {win : Int} {S : List Hd.Ent} {W : World} (h : Hd.HR base hb mb win S W) {T V : Nat → Int} {n : Nat} (hn : n ≤ 100) (hS : Hd.abs S = Hd.Lx T V n) (g : Nat) (hg : W.heap[g]? = some (.cells #[.string ⟨#[97]⟩, .string ⟨#[120]⟩] 53 (0, 0))) :
    Calls Try.prog 26 #[.pointer (some ⟨hb, 0, none⟩), .slice (some ⟨g, 0, none⟩) 1 1] W fun e' w' => ∃ A c, e' = .returned (.slice A (Hd.xs T V n).length c) ∧ Kd.C k44 w' A (Hd.xs T V n).length (Hd.xs T V n) ∧ Below W.heap.size W w' := by
  have hmk := Hd.mk_lab (s := Hd.sx) (by decide) (by decide)
  have hC := Hd.labC hg
  have hl := Hd.xs_len T V n
  by_cases h0 : n = 0
  · subst h0
    have hS0 : S = [] := by
      have : Hd.abs S = [] := hS
      unfold Hd.abs at this
      exact List.map_eq_nil_iff.1 this
    subst hS0
    obtain ⟨kl, h1, _⟩ := Hd.keyOf_txt' (Hd.lab Hd.sx)
    refine (head_Samples.miss h (some ⟨g, 0, none⟩) 1 (Hd.lab Hd.sx) hC (Nat.le_refl _) h1 (fun e he => by cases he)).mono ?_
    rintro e w' ⟨rfl, hb⟩
    exact ⟨none, 0, rfl, Kd.C_nil _ _, hb⟩
  · have hf : Hd.find (Hd.abs S) (Hd.lab Hd.sx) = some (Hd.xs T V n) := by
      rw [hS]
      unfold Hd.Lx
      rw [if_neg h0, Hd.find_hit]
    obtain ⟨e, he, hel, hex⟩ := Hd.find_ent hf
    rw [← hex] at hl ⊢
    refine (head_Samples.hit h (some ⟨g, 0, none⟩) 1 (Hd.lab Hd.sx) _ hC (Nat.le_refl _) hmk he hel (by omega)).mono ?_
    rintro e' w' ⟨v, rfl, hr, hb⟩
    obtain ⟨A, c, rfl, _, hc⟩ := Kd.R_reads hr
    exact ⟨A, c, rfl, hc, hb⟩
end
end Go.Proofs.Ytcgocdhffcnleaa.PHead

/- A part of the proofs about the head: see the theorems' own lines. -/
namespace Go.Proofs.Ytcgocdhffcnleaa.PHead
open Go Go.RowKit Go.Proofs.YtcgocdhffcnleaaW.PrintWords Go.Proofs.YtcgocdhffcnleaaW.PrintLast Go.Proofs.YtcgocdhffcnleaaW.PrintMore Go.Proofs.Ytcgocdhffcnleaa.XB Go.Proofs.Ytcgocdhffcnleaa.PHeadPlays Go.Proofs.Ytcgocdhffcnleaa.XH
set_option linter.unusedVariables false
set_option linter.unusedSimpArgs false
/-! ### HeadLast, walked -/
section
end
end Go.Proofs.Ytcgocdhffcnleaa.PHead
