/- A part of the proofs about the head: see the theorems' own lines. -/
import Derived.Test.YtcgocdhffcnleaaXHdL
import Derived.Lib.Overlaps
import Derived.Laws.CopyOwn
import Derived.Laws.IdiomCopy
import Derived.Lib.AppendZeros
import Derived.StillTailTactics
import Derived.Outline
namespace Go.Proofs.Ytcgocdhffcnleaa.PHead
open Go Go.RowKit Go.Proofs.YtcgocdhffcnleaaW.PrintWords Go.Proofs.YtcgocdhffcnleaaW.PrintLast Go.Proofs.YtcgocdhffcnleaaW.PrintMore Go.Proofs.Ytcgocdhffcnleaa.XB Go.Proofs.Ytcgocdhffcnleaa.PHeadPlays Go.Proofs.Ytcgocdhffcnleaa.XH
set_option linter.unusedVariables false
set_option linter.unusedSimpArgs false
/-! ### slices.Insert of one sample -/
section
def enc44 (xs : List S44) : List Value := xs.flatMap fun x => [.int .i64 x.f0, .int .i64 x.f1]
theorem enc44_len : ∀ xs : List S44, (enc44 xs).length = xs.length * 2
  | [] => rfl
  | x :: xs => by rw [enc44, List.flatMap_cons, List.length_append, ← enc44, enc44_len xs, List.length_cons]; simp; omega
theorem enc44_app (xs ys : List S44) : enc44 (xs ++ ys) = enc44 xs ++ enc44 ys := by unfold enc44; exact List.flatMap_append
theorem enc44_take : ∀ (xs : List S44) (i : Nat), enc44 (xs.take i) = (enc44 xs).take (i * 2)
  | [], i => by simp [enc44]
  | x :: xs, 0 => by simp [enc44]
  | x :: xs, i + 1 => by
    rw [List.take_succ_cons, show (i + 1) * 2 = i * 2 + 2 by omega]
    show [Value.int .i64 x.f0, .int .i64 x.f1] ++ enc44 (xs.take i) = List.take (i * 2 + 2) ([Value.int .i64 x.f0, .int .i64 x.f1] ++ enc44 xs)
    rw [enc44_take xs i]
    rfl
theorem enc44_drop : ∀ (xs : List S44) (i : Nat), enc44 (xs.drop i) = (enc44 xs).drop (i * 2)
  | [], i => by simp [enc44]
  | x :: xs, 0 => by simp [enc44]
  | x :: xs, i + 1 => by
    rw [List.drop_succ_cons, show (i + 1) * 2 = i * 2 + 2 by omega]
    show enc44 (xs.drop i) = List.drop (i * 2 + 2) ([Value.int .i64 x.f0, .int .i64 x.f1] ++ enc44 xs)
    rw [enc44_drop xs i]
    rfl
theorem enc44_one (xs : List S44) : ∀ v ∈ enc44 xs, v.oneCell' = true := by
  intro v hv
  obtain ⟨x, _, hx⟩ := List.mem_flatMap.1 hv
  simp only [List.mem_cons, List.not_mem_nil, or_false] at hx
  rcases hx with rfl | rfl <;> rfl
theorem enc44_reps {R : S44 → List Value → Prop} (hR : ∀ x, R x [.int .i64 x.f0, .int .i64 x.f1]) : ∀ xs : List S44, Reps R 2 xs (enc44 xs) := by
  intro xs
  refine ⟨enc44_len xs, fun j p hj => ?_⟩
  have hjl : j < xs.length := (List.getElem?_eq_some_iff.1 hj).1
  have he : xs[j] = p := (List.getElem?_eq_some_iff.1 hj).2
  have h1 : ((enc44 xs).drop (j * 2)).take 2 = [.int .i64 p.f0, .int .i64 p.f1] := by
    rw [← enc44_drop, List.drop_eq_getElem_cons hjl, he]
    rfl
  rw [h1]
  exact hR p
theorem reps_enc44 {R : S44 → List Value → Prop} (hR : ∀ x cs, R x cs → cs = [.int .i64 x.f0, .int .i64 x.f1]) : ∀ (xs : List S44) (cs : List Value), Reps R 2 xs cs → cs = enc44 xs
  | [], cs, h => by
    have := h.1
    exact List.eq_nil_of_length_eq_zero (by simpa using this)
  | x :: xs, cs, h => by
    have hl := h.1
    simp only [List.length_cons] at hl
    have h0 := hR _ _ (h.2 0 x rfl)
    rw [Nat.zero_mul, List.drop_zero] at h0
    have ih := reps_enc44 hR xs (cs.drop 2) ⟨by rw [List.length_drop]; omega, fun j p hj => by
      have := h.2 (j + 1) p (by simpa using hj)
      rw [List.drop_drop]
      rw [show 2 + j * 2 = (j + 1) * 2 by omega]
      exact this⟩
    rw [← List.take_append_drop 2 cs, h0, ih]
    rfl
theorem R44_raw {W : World} {base n cap : Nat} {A : Option Addr} {xs : List S44} (h : k44.R 44 W base (fun _ => True) (.slice A n cap) xs) (hp : 0 < xs.length) :
    ∃ g cur, A = some ⟨g, 0, none⟩ ∧ n = xs.length ∧ base ≤ g ∧ W.heap[g]? = some (.cells cur 44 (0, 0)) ∧ n ≤ cap ∧ cap ≤ maxLen ∧ cur.size = cap * 2 ∧ cur.toList.take (n * 2) = enc44 xs := by
  obtain ⟨_, inner, ho, hr⟩ := h
  have hin := reps_enc44 (fun x cs hc => k44_openM hc) xs inner hr
  rcases ho.2 with ⟨hv, hz⟩ | ⟨g, cap', cur, hv, hb, hh, h1, h2, h3, h4⟩
  · omega
  · injection hv with hv1 hv2 hv3
    subst hv2 hv3
    exact ⟨g, cur, hv1, rfl, hb, hh, h1, h2, h3, by rw [← hin]; exact h4⟩
theorem R44_of {W : World} {base g cap : Nat} {xs : List S44} {cur : Array Value} (hb : base ≤ g) (hh : W.heap[g]? = some (.cells cur 44 (0, 0))) (h1 : xs.length ≤ cap) (h2 : cap ≤ maxLen) (h3 : cur.size = cap * 2) (h4 : cur.toList.take (xs.length * 2) = enc44 xs) :
    k44.R 44 W base (fun _ => True) (.slice (some ⟨g, 0, none⟩) xs.length cap) xs :=
  ⟨fun _ _ => trivial, enc44 xs, ⟨enc44_len xs, .inr ⟨g, cap, cur, rfl, hb, hh, h1, h2, h3, h4⟩⟩, enc44_reps (fun x => k44_mkM _ _ _ x) xs⟩
theorem run_copy2 (W : World) (ty : TypeId) (g o dLen dCap sLen sCap m : Nat) (a : Addr) (cs : List Value) (cur : Array Value) (hm : Nat.min sLen dLen = m) (hcs : cs.length = m * 2)
    (hsrc : ∀ j v, cs[j]? = some v → W.cell? (a.add j) = some v) (hg : W.heap[g]? = some (.cells cur 44 (0, 0))) (hfit : o + cs.length ≤ cur.size) (h1 : ∀ v ∈ cs, v.oneCell' = true) :
    (Builtin.copy_ #[50, 50] ty #[.slice (some ⟨g, o, none⟩) dLen dCap, .slice (some a) sLen sCap]).run Try.prog W = .ok (.int .i64 m) (W.setCells g o cs) := by
  have hl := run_loadCells_list (P := Try.prog) W a cs hsrc
  have hst := run_storeCells_cells (P := Try.prog) g o cs 0 W (fun j hj => by rw [blk_cell hg, Array.getElem?_eq_getElem (by omega)]; rfl) (fun j hj => blk_frozen hg _) h1
  obtain ⟨i0, hi, _, hsz, _⟩ := info_parts info44
  rw [hcs] at hl
  simp [Builtin.copy_, run_underlying Try.underlying50, Builtin.lenOf, Builtin.firstCells, sizeOf, typeInfo, hi, hsz, hm, hl, hst, goInt]
theorem cell_at {W : World} {g : Nat} {cur : Array Value} (hg : W.heap[g]? = some (.cells cur 44 (0, 0))) (o : Nat) (j : Nat) (v : Value) (h : (cur.toList.drop o)[j]? = some v) : W.cell? ((⟨g, o, none⟩ : Addr).add j) = some v := by
  rw [add_at, blk_cell hg]
  rw [List.getElem?_drop] at h
  simpa using h
end
section
/-- append(s[:i], make(S, m)...) where there is no room: a new row. -/
theorem run_zeros_new (W : World) (g i cap m : Nat) (ty : TypeId) (cs : List Value) (hcs : cs.length = i * 2) (hc : ∀ j u, cs[j]? = some u → W.cell? ((⟨g, 0, none⟩ : Addr).add j) = some u) (hcap : cap < i + m) (hm0 : m ≠ 0) (hl : (i + m) * 16 ≤ 140737488355328) :
    (Builtin.append_ #[50, 3] ty #[.slice (some ⟨g, 0, none⟩) i cap, .int .i64 m]).run Try.prog W =
      .ok (.slice (some ⟨W.heap.size, 0, none⟩) (i + m) (grownCap W (i + m) cap 44)) (W.drew.alloc (.cells (cs.toArray ++ Builtin.zeroCells #[.int .i64 0, .int .i64 0] m ++ Builtin.zeroCells #[.int .i64 0, .int .i64 0] (grownCap W (i + m) cap 44 - (i + m))) 44)) := by
  obtain ⟨i0, hi, hz0, hz1, hz2⟩ := info_parts info44
  have hw : IntKind.i64.wrap (m : Int) = m := by rw [IntKind.wrap_i64]; omega
  have hneg : ¬ ((m : Int) < 0) := by omega
  have hbig : ¬ (281474976710656 < (m : Int) * (i0.bytes : Int)) := by rw [hz2]; omega
  have hn : ¬ (i + m ≤ cap) := by omega
  have h63' : ¬ (9223372036854775807 < ((i : Int) + (m : Int))) := by omega
  have hfit := growslice_fits (bytes := 16) hcap hl
  have h48' : ¬ (281474976710656 < Builtin.nextslicecap (i + m) cap * i0.bytes) := by rw [hz2]; omega
  have hfo := run_firstCells_some (P := Try.prog) W.drew 2 i ⟨g, 0, none⟩ i cap cs hcs (by simpa using hc)
  have hmz : ¬ (m * i0.size = 0) := by rw [hz1]; omega
  have hmz2 : ¬ (m * 2 = 0) := by omega
  simp [Builtin.append_, run_underlying Try.underlying50, run_underlying Try.underlying3, sizeOf, typeInfo, zeroValue, hi, hz0, hz1, asInt, asIntOf, hw, hneg, hbig, hn, h63', h48', Question.forced, hfo, newRow, grownCap, hmz, hmz2, hm0]
  rfl
theorem _root_.Go.World.grownBy.trans_same {w w1 w2 : World} {row : Option Nat} (h : w.grownBy w1 row) (k : w1.grownBy w2 row) : w.grownBy w2 row :=
  ⟨k.os.trans h.os, k.tape.trans h.tape, k.output.trans h.output, Nat.le_trans h.size k.size, fun i hi hr => (k.block i (Nat.lt_of_lt_of_le hi h.size) hr).trans (h.block i hi hr)⟩
def Ins.Post (base : Nat) (W : World) (v : Value) (xs' : List S44) (e : Ending) (w' : World) : Prop :=
  ∃ v', e = .returned v' ∧ k44.R 44 w' base (fun _ => True) v' xs' ∧ W.grownBy w' v.ownBlock ∧ (v'.ownBlock = v.ownBlock ∨ ∃ b, v'.ownBlock = some b ∧ W.heap.size ≤ b)
set_option maxHeartbeats 8000000 in
set_option maxRecDepth 100000 in
theorem Insert.atEnd (base : Nat) (W : World) (A : Option Addr) (cap : Nat) (xs : List S44) (s : S44) (vb : Nat) (hR : k44.R 44 W base (fun _ => True) (.slice A xs.length cap) xs) (hv : W.heap[vb]? = some (.cells #[.int .i64 s.f0, .int .i64 s.f1] 44 (0, 0))) (hbase : base ≤ W.heap.size) (hl : xs.length ≤ 1099511627776) :
    Calls Try.prog 139 #[.slice A xs.length cap, .int .i64 (xs.length : Nat), .slice (some ⟨vb, 0, none⟩) 1 1] W fun e w' => Ins.Post base W (.slice A xs.length cap) (xs ++ [s]) e w' := by
  have HR := Aside0.mk hR
  have HV := Aside0.mk hv
  have hcap := (Kd.R_reads' hR).2.1
  obtain ⟨i0, hi, hz0, hz1, hz2⟩ := info_parts info44
  have hcut := cut_from (P := Try.prog) 50 44 .i64 Try.underlying50 hi 2 hz1 A xs.length cap (xs.length : Nat) (by omega) (by omega)
  have HVC := Aside0.mk (show Kd.C k44 W (some ⟨vb, 0, none⟩) [s].length [s] from by
    refine ⟨rfl, by simp, fun hp => ⟨_, rfl, fun j x hj => ?_⟩⟩
    match j with
    | 0 =>
      have e := Option.some.inj hj
      subst e
      refine ⟨_, rfl, k44_mk _ _, fun i u hu => ?_⟩
      match i with
      | 0 => exact (blk_cell hv 0).trans hu
      | 1 => exact (blk_cell hv 1).trans hu
      | i + 2 => simp at hu
    | j + 1 => simp at hj)
  have HBS := Aside0.mk hbase
  obtain ⟨n, hn⟩ : ∃ n, n = xs.length := ⟨_, rfl⟩
  have HN := Aside0.mk hn
  rw [← hn] at HR hcut ⊢
  obtain ⟨A1, hA1⟩ : ∃ A1, (if cap = (n : Int).toNat then A else A.map (·.add ((n : Int).toNat * 2))) = A1 := ⟨_, rfl⟩
  rw [hA1] at hcut
  clear hA1
  clear hR hv hcap hi hz0 hz1 hz2 hbase hn
  go_enter Try.func139, Try.ntmps139
  go_wp2_with (first | ((with_reducible refine gate_builtin (b := .append) (xs := #[.tmp 23, .tmp 24]) rfl ?_); at_builtin; refine Kd.R_append_rows k44 (Rr := k44.K W) (w0 := W) base rfl (.tmp 23) (.tmp 24) 50 44 (.agg #[.int .i64 0, .int .i64 0]) 16 rfl Try.underlying50 info44 rfl (by decide) (by omega) (.slice A n cap) xs [s] (some ⟨vb, 0, none⟩) 1 1 (fun _ => True) (fun _ => False) rfl rfl HR.out HVC.out (fun x cs hx => by have := k44_open hx; subst this; exact k44_mkM _ _ _ _) (fun _ h => h.elim) (fun _ _ => trivial) (Below.refl _ _) HBS.out (by have := HN.out; omega) ?_; intro v1 w1 hr1 hb1 hg1 hat1; have HR1 := Aside0.mk hr1; have HG1 := Aside0.mk hg1; have HAT := Aside0.mk hat1; clear hr1 hb1 hg1 hat1))
  go_ret
  exact ⟨_, rfl, HR1.out, HG1.out, HAT.out⟩
set_option maxHeartbeats 8000000 in
set_option maxRecDepth 100000 in
theorem Insert.shift (base : Nat) (W : World) (A : Option Addr) (cap : Nat) (xs : List S44) (i : Nat) (s : S44) (vb : Nat) (hR : k44.R 44 W base (fun _ => True) (.slice A xs.length cap) xs) (hv : W.heap[vb]? = some (.cells #[.int .i64 s.f0, .int .i64 s.f1] 44 (0, 0))) (hne : some vb ≠ (Value.slice A xs.length cap).ownBlock) (hi : i < xs.length) (hc : xs.length + 1 ≤ cap) (hl : xs.length ≤ 1099511627776) :
    Calls Try.prog 139 #[.slice A xs.length cap, .int .i64 (i : Nat), .slice (some ⟨vb, 0, none⟩) 1 1] W fun e w' => Ins.Post base W (.slice A xs.length cap) (xs.take i ++ s :: xs.drop i) e w' := by
  obtain ⟨g, cur, rfl, _, hbg, hg, hnc, hcm, hsz, hpre⟩ := R44_raw hR (by omega)
  have hgv : vb ≠ g := fun e => hne (by rw [e]; rfl)
  obtain ⟨n, hn⟩ : ∃ n, n = xs.length := ⟨_, rfl⟩
  obtain ⟨i0, hi0, hz0, hz1, hz2⟩ := info_parts info44
  rw [← hn] at hpre hnc hi hc hl ⊢
  have c1 := cut_from (P := Try.prog) 50 44 .i64 Try.underlying50 hi0 2 hz1 (some ⟨g, 0, none⟩) n cap (i : Nat) (by omega) (by omega)
  have c2 := cut_upto (P := Try.prog) 50 44 .i64 Try.underlying50 hi0 (some ⟨g, 0, none⟩) n cap ((n : Int) + 1) (by omega) (by omega)
  have c3 := cut_from (P := Try.prog) 50 44 .i64 Try.underlying50 hi0 2 hz1 (some ⟨g, 0, none⟩) (n + 1) cap ((i : Int) + 1) (by omega) (by omega)
  have c4 := cut_from (P := Try.prog) 50 44 .i64 Try.underlying50 hi0 2 hz1 (some ⟨g, 0, none⟩) (n + 1) cap (i : Nat) (by omega) (by omega)
  rw [show ((n : Int) + 1).toNat = n + 1 by omega] at c2
  rw [show ((i : Int) + 1).toNat = i + 1 by omega, if_neg (by omega)] at c3
  rw [Int.toNat_natCast, if_neg (by omega)] at c1 c4
  simp only [Option.map_some, add_plain] at c1 c3 c4
  rw [show n + 1 - (i + 1) = n - i by omega] at c3
  have HG := Aside0.mk hg
  have HV := Aside0.mk hv
  have HPRE := Aside0.mk hpre
  have HSZ := Aside0.mk hsz
  have HN := Aside0.mk hn
  have HBG := Aside0.mk hbg
  have HCM := Aside0.mk hcm
  have hiz : ¬ (i : Int) = (n : Int) := by omega
  have hiy : ((i : Int) == (n : Int)) = false := by rw [beq_eq_false_iff_ne]; omega
  have hcz : ¬ (n : Int) + 1 > (cap : Int) := by omega
  have hcy : ¬ (cap : Int) < (n : Int) + 1 := by omega
  clear hR hv hne hpre hsz hn hbg hg hi0 hz0 hz1 hz2
  go_enter Try.func139, Try.ntmps139
  go_upto_region 14 with fail
  have hov : (callFunc 148 #[.slice (some ⟨vb, 0, none⟩) 1 1, .slice (some ⟨g, (i + 1) * 2, none⟩) (n - i) (cap - (i + 1))]).run Try.prog W = .ok (.value (.bool false)) W := by
    rw [run_callFunc_extern Try.func148 (by kernel_rfl) (by kernel_rfl) (by kernel_rfl) (e := Extern.SlicesOverlaps.overlaps #[50, 50] #[4]) (by kernel_rfl)]
    rw [Lib.run_overlaps_apart W 50 4 44 Try.underlying50 2 (fun w => Try.sizeOf44 w) ⟨vb, 0, none⟩ ⟨g, (i + 1) * 2, none⟩ 1 1 (n - i) (cap - (i + 1)) hgv 44 44 2 (cap * 2) (by simp [World.shape?, HV.out]) (by simp [World.shape?, HG.out, HSZ.out]) (by omega) (blk_frozen HV.out 0) (blk_frozen HV.out 2)]
    rfl
  have hni : IntKind.i64.wrap ((i : Int) + 1) = (i : Int) + 1 := by rw [IntKind.wrap_i64]; omega
  obtain ⟨cs, hcs⟩ : ∃ cs, cs = enc44 (xs.drop i) := ⟨_, rfl⟩
  have hcl : cs.length = (n - i) * 2 := by rw [hcs, enc44_len, List.length_drop, ← HN.out]
  have hcd : cs = (cur.toList.drop (i * 2)).take ((n - i) * 2) := by
    rw [hcs, enc44_drop, ← HPRE.out, List.drop_take]
    congr 1
    omega
  have hcp1 := fun ty : TypeId => run_copy2 W.drew ty g ((i + 1) * 2) (n - i) (cap - (i + 1)) (n + 1 - i) (cap - i) (n - i) ⟨g, i * 2, none⟩ cs cur (Nat.min_eq_right (by omega)) hcl (fun j v hj => cell_at HG.out (i * 2) j v (by
      rw [hcd, List.getElem?_take] at hj
      split at hj
      · exact hj
      · cases hj)) HG.out (by rw [hcl, HSZ.out]; omega) (by rw [hcs]; exact enc44_one _)
  have HCS := Aside0.mk hcs
  have HCL := Aside0.mk hcl
  have HCD := Aside0.mk hcd
  clear hcs hcl hcd
  go_upto_region 15 with fail
  clear hov
  go_region
  go_upto_region 16 with fail
  refine cwp_world ?_
  intro W5 hW5
  have hfit : (i + 1) * 2 + cs.length ≤ cur.size := by rw [HCL.out, HSZ.out]; omega
  obtain ⟨cur5, hg5, hs5, hl5⟩ := setCells_row (e := 44) cs ((i + 1) * 2) W.drew cur HG.out hfit
  have hbk5 : W5.heap[g]? = some (.cells cur5 44 (0, 0)) := by rw [hW5]; exact hg5
  have hvb5 : W5.heap[vb]? = some (.cells #[.int .i64 s.f0, .int .i64 s.f1] 44 (0, 0)) := by rw [hW5]; exact (setCells_far cs ((i + 1) * 2) vb hgv).trans HV.out
  have hgr5 : W.grownBy W5 (some g) := by
    rw [hW5]
    obtain ⟨h1, h2, h3, h4⟩ := setCells_same g cs ((i + 1) * 2) W.drew
    exact ⟨h1, h2, h3, Nat.le_of_eq h4.symm, fun k _ hk => setCells_far cs ((i + 1) * 2) k (fun e => hk (by rw [e]))⟩
  have hcp2 := fun ty : TypeId => run_copy2 W5 ty g (i * 2) (n + 1 - i) (cap - i) 1 1 1 ⟨vb, 0, none⟩ [.int .i64 s.f0, .int .i64 s.f1] cur5 (Nat.min_eq_left (by omega)) rfl (fun j v hj => cell_at hvb5 0 j v (by simpa using hj)) hbk5 (by rw [hs5, HSZ.out]; simp; omega) (by intro v hv; simp only [List.mem_cons, List.not_mem_nil, or_false] at hv; rcases hv with rfl | rfl <;> rfl)
  have HBK5 := Aside0.mk hbk5
  have HL5 := Aside0.mk hl5
  have HS5 := Aside0.mk hs5
  have HGR5 := Aside0.mk hgr5
  clear hcp1 hW5 hfit hg5 hs5 hl5 hbk5 hvb5 hgr5 c1 c2 c3
  go_wp2_with fail
  go_ret
  obtain ⟨cur6, hg6, hs6, hl6⟩ := setCells_row (e := 44) [.int .i64 s.f0, .int .i64 s.f1] (i * 2) W5 cur5 HBK5.out (by rw [HS5.out, HSZ.out]; show i * 2 + 2 ≤ cap * 2; omega)
  have hxl : (xs.take i ++ s :: xs.drop i).length = n + 1 := by rw [List.length_append, List.length_cons, List.length_take, List.length_drop, ← HN.out]; omega
  have hcs2 : cur6.toList.take ((n + 1) * 2) = enc44 (xs.take i ++ s :: xs.drop i) := by
    have e1 : enc44 (xs.take i ++ s :: xs.drop i) = cur.toList.take (i * 2) ++ ([.int .i64 s.f0, .int .i64 s.f1] ++ cs) := by
      rw [enc44_app, enc44_take, ← HPRE.out, List.take_take, Nat.min_eq_left (by omega)]
      congr 1
      show [Value.int .i64 s.f0, .int .i64 s.f1] ++ enc44 (xs.drop i) = _
      rw [HCS.out]
    have hcul : cur.toList.length = cap * 2 := by rw [Array.length_toList, HSZ.out]
    rw [hl6, HL5.out, e1]
    have t1 : (cur.toList.take ((i + 1) * 2) ++ cs ++ cur.toList.drop ((i + 1) * 2 + cs.length)).take (i * 2) = cur.toList.take (i * 2) := by
      rw [List.append_assoc, List.take_append_of_le_length (by rw [List.length_take, hcul]; omega), List.take_take, Nat.min_eq_left (by omega)]
    have t2 : (cur.toList.take ((i + 1) * 2) ++ cs ++ cur.toList.drop ((i + 1) * 2 + cs.length)).drop (i * 2 + [Value.int .i64 s.f0, .int .i64 s.f1].length) = cs ++ cur.toList.drop ((i + 1) * 2 + cs.length) := by
      have hlt : (cur.toList.take ((i + 1) * 2)).length = i * 2 + [Value.int .i64 s.f0, .int .i64 s.f1].length := by rw [List.length_take, hcul]; simp; omega
      rw [List.append_assoc, ← hlt, List.drop_left]
    rw [t1, t2]
    have hl1 : (cur.toList.take (i * 2) ++ [Value.int .i64 s.f0, .int .i64 s.f1] ++ cs).length = (n + 1) * 2 := by
      rw [List.length_append, List.length_append, List.length_take, hcul, HCL.out]
      simp
      omega
    rw [← List.append_assoc, ← hl1, List.take_left, List.append_assoc]
  refine ⟨_, rfl, ?_, ?_, .inl rfl⟩
  · have := R44_of (base := base) (g := g) (cap := cap) (xs := xs.take i ++ s :: xs.drop i) (cur := cur6) HBG.out hg6 (by rw [hxl]; exact hc) HCM.out (by rw [hs6, HS5.out, HSZ.out]) (by rw [hxl]; exact hcs2)
    rw [hxl] at this
    exact this
  · obtain ⟨h1, h2, h3, h4⟩ := setCells_same g [.int .i64 s.f0, .int .i64 s.f1] (i * 2) W5
    exact HGR5.out.trans_same ⟨h1, h2, h3, Nat.le_of_eq h4.symm, fun k _ hk => setCells_far [.int .i64 s.f0, .int .i64 s.f1] (i * 2) k (fun e => hk (by rw [e]))⟩
set_option maxHeartbeats 8000000 in
set_option maxRecDepth 100000 in
theorem Insert.grow (base : Nat) (W : World) (A : Option Addr) (cap : Nat) (xs : List S44) (i : Nat) (s : S44) (vb : Nat) (hR : k44.R 44 W base (fun _ => True) (.slice A xs.length cap) xs) (hv : W.heap[vb]? = some (.cells #[.int .i64 s.f0, .int .i64 s.f1] 44 (0, 0))) (hbase : base ≤ W.heap.size) (hi : i < xs.length) (hc : cap < xs.length + 1) (hl : xs.length ≤ 1099511627776) :
    Calls Try.prog 139 #[.slice A xs.length cap, .int .i64 (i : Nat), .slice (some ⟨vb, 0, none⟩) 1 1] W fun e w' => Ins.Post base W (.slice A xs.length cap) (xs.take i ++ s :: xs.drop i) e w' := by
  obtain ⟨g, cur, rfl, _, hbg, hg, hnc, hcm, hsz, hpre⟩ := R44_raw hR (by omega)
  obtain ⟨n, hn⟩ : ∃ n, n = xs.length := ⟨_, rfl⟩
  obtain ⟨i0, hi0, hz0, hz1, hz2⟩ := info_parts info44
  rw [← hn] at hpre hnc hi hc hl ⊢
  obtain rfl : cap = n := by omega
  have c1 := cut_from (P := Try.prog) 50 44 .i64 Try.underlying50 hi0 2 hz1 (some ⟨g, 0, none⟩) cap cap (i : Nat) (by omega) (by omega)
  have c2 := cut_to (P := Try.prog) 50 44 .i64 Try.underlying50 hi0 (some ⟨g, 0, none⟩) cap cap (i : Nat) (by omega) (by omega) (Nat.le_refl _)
  rw [Int.toNat_natCast, if_neg (by omega)] at c1
  rw [Int.toNat_natCast] at c2
  simp only [Option.map_some, add_plain] at c1
  obtain ⟨m, hm⟩ : ∃ m, m = cap + 1 - i := ⟨_, rfl⟩
  obtain ⟨W5, hW5⟩ : ∃ W5, W5 = W.drew.alloc (.cells ((enc44 (xs.take i)).toArray ++ Builtin.zeroCells #[.int .i64 0, .int .i64 0] m ++ Builtin.zeroCells #[.int .i64 0, .int .i64 0] (grownCap W (i + m) cap 44 - (i + m))) 44) := ⟨_, rfl⟩
  obtain ⟨gc, hgc⟩ : ∃ gc, gc = grownCap W (i + m) cap 44 := ⟨_, rfl⟩
  have hgc1 : cap + 1 ≤ gc := by rw [hgc]; have := grownCap_ge W (i + m) cap 44; omega
  have hgc2 : gc ≤ maxLen := by rw [hgc]; exact grownCap_le_maxLen W (i + m) cap 44 (by unfold maxLen; omega)
  have hzr := fun ty : TypeId => run_zeros_new W g i cap m ty (enc44 (xs.take i)) (by rw [enc44_len, List.length_take, ← hn]; omega) (fun j u hj => by
    refine cell_at hg 0 j u ?_
    rw [List.drop_zero]
    rw [enc44_take, ← hpre, List.take_take, List.getElem?_take] at hj
    split at hj
    · exact hj
    · cases hj) (by omega) (by omega) (by omega)
  rw [← hW5, ← hgc] at hzr
  rw [show i + m = cap + 1 by omega] at hzr
  obtain ⟨g2, hg2⟩ : ∃ g2, g2 = W.heap.size := ⟨_, rfl⟩
  obtain ⟨cur2, hc2⟩ : ∃ cur2, cur2 = (enc44 (xs.take i)).toArray ++ Builtin.zeroCells #[.int .i64 0, .int .i64 0] m ++ Builtin.zeroCells #[.int .i64 0, .int .i64 0] (grownCap W (i + m) cap 44 - (i + m)) := ⟨_, rfl⟩
  have hbk5 : W5.heap[g2]? = some (.cells cur2 44 (0, 0)) := by rw [hW5, hg2, hc2]; exact blk_new W.drew _
  have hs2 : cur2.size = gc * 2 := by
    rw [hc2, Array.size_append, Array.size_append, size_zeroCells, size_zeroCells, List.size_toArray, enc44_len, List.length_take, ← hn, ← hgc]
    simp
    omega
  have ht2 : cur2.toList.take (i * 2) = enc44 (xs.take i) := by
    rw [hc2, Array.toList_append, Array.toList_append, List.append_assoc]
    have : (enc44 (xs.take i)).length = i * 2 := by rw [enc44_len, List.length_take, ← hn]; omega
    rw [← this]
    exact List.take_left
  have hb5 : Below W.heap.size W W5 := by rw [hW5]; exact below_alloc (below_drew1 (Below.refl _ _)) _
  rw [← hg2] at hzr
  have HG5 := Aside0.mk (blk_below hg hb5)
  have HV5 := Aside0.mk (blk_below hv hb5)
  have HB5 := Aside0.mk hb5
  have HBK5 := Aside0.mk hbk5
  have HS2 := Aside0.mk hs2
  have HT2 := Aside0.mk ht2
  have HG2 := Aside0.mk hg2
  have HPRE := Aside0.mk hpre
  have HSZ := Aside0.mk hsz
  have HN := Aside0.mk hn
  have HBS := Aside0.mk hbase
  have HGC2 := Aside0.mk hgc2
  have hgv : vb ≠ g2 := by rw [hg2]; exact Nat.ne_of_lt (blk_lt hv)
  have hgg : g ≠ g2 := by rw [hg2]; exact Nat.ne_of_lt (blk_lt hg)
  have d1 := cut_from (P := Try.prog) 50 44 .i64 Try.underlying50 hi0 2 hz1 (some ⟨g2, 0, none⟩) (cap + 1) gc (i : Nat) (by omega) (by omega)
  have d2 := cut_from (P := Try.prog) 50 44 .i64 Try.underlying50 hi0 2 hz1 (some ⟨g2, 0, none⟩) (cap + 1) gc ((i : Int) + 1) (by omega) (by omega)
  rw [Int.toNat_natCast, if_neg (by omega)] at d1
  rw [show ((i : Int) + 1).toNat = i + 1 by omega, if_neg (by omega)] at d2
  simp only [Option.map_some, add_plain] at d1 d2
  rw [show cap + 1 - (i + 1) = cap - i by omega] at d2
  have hiz : ¬ (i : Int) = (cap : Int) := by omega
  have hiy : ((i : Int) == (cap : Int)) = false := by rw [beq_eq_false_iff_ne]; omega
  have hcz : (cap : Int) + 1 > (cap : Int) := by omega
  have hcy : (cap : Int) < (cap : Int) + 1 := by omega
  have hmz : (cap : Int) + 1 - (i : Int) = (m : Int) := by omega
  have hcp1 := fun ty : TypeId => run_copy2 W5 ty g2 (i * 2) (cap + 1 - i) (gc - i) 1 1 1 ⟨vb, 0, none⟩ [.int .i64 s.f0, .int .i64 s.f1] cur2 (Nat.min_eq_left (by omega)) rfl (fun j v hj => cell_at HV5.out 0 j v (by simpa using hj)) HBK5.out (by rw [HS2.out]; show i * 2 + 2 ≤ gc * 2; omega) (by intro v hv; simp only [List.mem_cons, List.not_mem_nil, or_false] at hv; rcases hv with rfl | rfl <;> rfl)
  clear hR hv hpre hsz hn hbg hg hi0 hz0 hz1 hz2 hW5 hgc hm hg2 hc2 hbk5 hs2 ht2 hb5 hgc2 hbase
  go_enter Try.func139, Try.ntmps139
  have hmw : IntKind.i64.wrap ((cap : Int) + 1 - (i : Int)) = (m : Int) := by rw [IntKind.wrap_i64]; omega
  go_upto_region 10 with (at_builtin; refine Lib.wpList_append_run _ rfl _ _ _ _ rfl _ _ rfl rfl _ _ (hzr _) ?_)
  clear hzr c2 hmz hmw
  go_upto_region 11 with fail
  refine cwp_world ?_
  intro W6 hW6
  obtain ⟨cur3, hg3, hs3, hl3⟩ := setCells_row (e := 44) [.int .i64 s.f0, .int .i64 s.f1] (i * 2) W5 cur2 HBK5.out (by rw [HS2.out]; show i * 2 + 2 ≤ gc * 2; omega)
  have HBK6 := Aside0.mk (show W6.heap[g2]? = some (.cells cur3 44 (0, 0)) by rw [hW6]; exact hg3)
  have HG6 := Aside0.mk (show W6.heap[g]? = some (.cells cur 44 (0, 0)) by rw [hW6]; exact (setCells_far _ _ g hgg).trans HG5.out)
  have HB6 := Aside0.mk (show Below W.heap.size W W6 by
    rw [hW6]
    obtain ⟨h1, h2, h3, h4⟩ := setCells_same g2 [.int .i64 s.f0, .int .i64 s.f1] (i * 2) W5
    exact ⟨h1.trans HB5.out.os, h2.trans HB5.out.tape, h3.trans HB5.out.output, Nat.le_trans HB5.out.size (Nat.le_of_eq h4.symm), fun k hk => (setCells_far _ _ k (by rw [HG2.out]; exact Nat.ne_of_lt hk)).trans (HB5.out.block k hk)⟩)
  have HS3 := Aside0.mk hs3
  have HL3 := Aside0.mk hl3
  clear hW6 hg3 hs3 hl3 hcp1
  have hni : IntKind.i64.wrap ((i : Int) + 1) = (i : Int) + 1 := by rw [IntKind.wrap_i64]; omega
  obtain ⟨cs, hcs⟩ : ∃ cs, cs = enc44 (xs.drop i) := ⟨_, rfl⟩
  have hcl : cs.length = (cap - i) * 2 := by rw [hcs, enc44_len, List.length_drop, ← HN.out]
  have hcd : cs = (cur.toList.drop (i * 2)).take ((cap - i) * 2) := by
    rw [hcs, enc44_drop, ← HPRE.out, List.drop_take]
    congr 1
    omega
  have hfit : (i + 1) * 2 + cs.length ≤ cur3.size := by rw [hcl, HS3.out, HS2.out]; omega
  have hcp2 := fun ty : TypeId => run_copy2 W6.drew ty g2 ((i + 1) * 2) (cap - i) (gc - (i + 1)) (cap - i) (cap - i) (cap - i) ⟨g, i * 2, none⟩ cs cur3 (Nat.min_self _) hcl (fun j v hj => cell_at HG6.out (i * 2) j v (by
      rw [hcd, List.getElem?_take] at hj
      split at hj
      · exact hj
      · cases hj)) HBK6.out hfit (by rw [hcs]; exact enc44_one _)
  have HCS := Aside0.mk hcs
  have HCL := Aside0.mk hcl
  have HFIT := Aside0.mk hfit
  clear hcs hcl hcd hfit
  go_region
  go_wp2_with fail
  go_ret
  obtain ⟨cur4, hg4, hs4, hl4⟩ := setCells_row (e := 44) cs ((i + 1) * 2) W6.drew cur3 HBK6.out HFIT.out
  have hxl : (xs.take i ++ s :: xs.drop i).length = cap + 1 := by rw [List.length_append, List.length_cons, List.length_take, List.length_drop, ← HN.out]; omega
  have hcs2 : cur4.toList.take ((cap + 1) * 2) = enc44 (xs.take i ++ s :: xs.drop i) := by
    have e1 : enc44 (xs.take i ++ s :: xs.drop i) = enc44 (xs.take i) ++ [.int .i64 s.f0, .int .i64 s.f1] ++ cs := by
      rw [enc44_app, List.append_assoc]
      congr 1
      show [Value.int .i64 s.f0, .int .i64 s.f1] ++ enc44 (xs.drop i) = _
      rw [HCS.out]
    have hc2l : cur2.toList.length = gc * 2 := by rw [Array.length_toList, HS2.out]
    have hel : (enc44 (xs.take i)).length = i * 2 := by rw [enc44_len, List.length_take, ← HN.out]; omega
    have t1 : cur3.toList.take ((i + 1) * 2) = enc44 (xs.take i) ++ [.int .i64 s.f0, .int .i64 s.f1] := by
      rw [HL3.out, HT2.out]
      have : (enc44 (xs.take i) ++ [Value.int .i64 s.f0, .int .i64 s.f1]).length = (i + 1) * 2 := by rw [List.length_append, hel]; simp; omega
      rw [← this]
      exact List.take_left
    rw [hl4, t1, e1]
    have hl1 : (enc44 (xs.take i) ++ [Value.int .i64 s.f0, .int .i64 s.f1] ++ cs).length = (cap + 1) * 2 := by
      rw [List.length_append, List.length_append, hel, HCL.out]
      simp
      omega
    rw [← hl1]
    exact List.take_left
  have hbg2 : base ≤ g2 := by rw [HG2.out]; exact HBS.out
  refine ⟨_, rfl, ?_, ?_, .inr ⟨g2, rfl, by rw [HG2.out]; exact Nat.le_refl _⟩⟩
  · have := R44_of (base := base) (g := g2) (cap := gc) (xs := xs.take i ++ s :: xs.drop i) (cur := cur4) hbg2 hg4 (by rw [hxl]; omega) HGC2.out (by rw [hs4, HS3.out, HS2.out]) (by rw [hxl]; exact hcs2)
    rw [hxl] at this
    exact this
  · obtain ⟨h1, h2, h3, h4⟩ := setCells_same g2 cs ((i + 1) * 2) W6.drew
    exact grown_of_below (⟨h1.trans HB6.out.os, h2.trans HB6.out.tape, h3.trans HB6.out.output, Nat.le_trans HB6.out.size (Nat.le_of_eq h4.symm), fun k hk => (setCells_far _ _ k (by rw [HG2.out]; exact Nat.ne_of_lt hk)).trans (HB6.out.block k hk)⟩) _
theorem Insert.calls (base : Nat) (W : World) (A : Option Addr) (cap : Nat) (xs : List S44) (i : Nat) (s : S44) (vb : Nat) (hR : k44.R 44 W base (fun _ => True) (.slice A xs.length cap) xs) (hv : W.heap[vb]? = some (.cells #[.int .i64 s.f0, .int .i64 s.f1] 44 (0, 0))) (hne : some vb ≠ (Value.slice A xs.length cap).ownBlock) (hbase : base ≤ W.heap.size) (hi : i ≤ xs.length) (hl : xs.length ≤ 1099511627776) :
    Calls Try.prog 139 #[.slice A xs.length cap, .int .i64 (i : Nat), .slice (some ⟨vb, 0, none⟩) 1 1] W fun e w' => Ins.Post base W (.slice A xs.length cap) (xs.take i ++ s :: xs.drop i) e w' := by
  rcases Nat.lt_or_ge i xs.length with h | h
  · rcases Nat.lt_or_ge cap (xs.length + 1) with h2 | h2
    · exact Insert.grow base W A cap xs i s vb hR hv hbase h h2 hl
    · exact Insert.shift base W A cap xs i s vb hR hv hne h h2 hl
  · obtain rfl : i = xs.length := by omega
    have := Insert.atEnd base W A cap xs s vb hR hv hbase hl
    rw [List.take_length, List.drop_length]
    exact this
end
end Go.Proofs.Ytcgocdhffcnleaa.PHead
