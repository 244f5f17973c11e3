/- Parts of the proof of the law's row, put together: see the theorems' own lines. -/
import Derived.Test.YtcgocdhffcnleaaVHeadCutsaw
import Derived.Recover
import Derived.Defers
import Derived.WalkLawsBesides
import Derived.Outline
/- A part of the proofs about the head: see the theorems' own lines. -/
namespace Go.Proofs.Ytcgocdhffcnleaa.PHead
open Go Go.RowKit Go.Proofs.YtcgocdhffcnleaaW.PrintWords Go.Proofs.YtcgocdhffcnleaaW.PrintLast Go.Proofs.YtcgocdhffcnleaaW.PrintMore Go.Proofs.Ytcgocdhffcnleaa.XB Go.Proofs.Ytcgocdhffcnleaa.PHeadPlays Go.Proofs.Ytcgocdhffcnleaa.XH
set_option linter.unusedVariables false
set_option linter.unusedSimpArgs false
/-! ### Ask -/
section
open Go.Maps
set_option maxHeartbeats 4000000 in
theorem head_Ask.catch_panicking (g : Nat) (y c : Int) (w : World) (hb : w.heap[g]? = some (.cells #[.int .i64 y] 29 (0, 0))) :
    CallsD Try.prog 124 #[.pointer (some ⟨g, 0, none⟩)] (.panicking [{ v := Hd.errV c, recovered := false }]) w fun e u' w' =>
      e = .returned (.tuple #[]) ∧ u' = .panicking [{ v := Hd.errV c, recovered := true }] ∧ w'.heap[g]? = some (.cells #[.int .i64 c] 29 (0, 0)) ∧ w.heap.size ≤ w'.heap.size ∧ (∀ k, k < w.heap.size → k ≠ g → w'.heap[k]? = w.heap[k]?) ∧ w'.os = w.os ∧ w'.tape = w.tape ∧ w'.output = w.output := by
  have HB := Aside0.mk hb
  have c0 : w.cell? ⟨g, 0, none⟩ = some (.int .i64 y) := (blk_cell hb 0).trans rfl
  have f0 := blk_frozen hb 0
  have hn0 : g < w.heap.size := blk_lt hb
  unfold Hd.errV
  clear hb
  refine callsD_of_wpS Try.func124 rfl fun c₀ cs hu => ?_
  apply wpS_seq
  apply wpS_region
  simp [wpOpsS, go_sem, recoverD, hu, Try.ntmps124, Exit.thenS]
  have hta : ∀ (v : Value) (W : World), (Instr.typeAssert (.iface 180 v) 20 180 true).run Try.prog W = .ok (.tuple #[v, .bool true]) W := fun _ _ => by kernel_rfl
  apply wpS_of_wp
  simp only [List.replicate, Array.replicate_succ, Array.replicate_zero, List.push_toArray, List.append_toArray, List.nil_append, List.cons_append, List.setIfInBounds_toArray, List.set_cons_succ, List.set_cons_zero]
  go_wp2
  refine ⟨rfl, _, rfl, _, results_none rfl _ _ _, rfl, rfl, blk_alloc (blk_put HB.out 0 _ rfl) _, ?_, fun k hk hne => ?_, rfl, rfl, rfl⟩
  · rw [World.size_alloc, World.size_setCell]; exact Nat.le_succ _
  · have h1 : ((w.setCell ⟨g, 0, none⟩ (.int .i64 c)).alloc (.cells #[.int .i64 c] 180)).heap[k]? = (w.setCell ⟨g, 0, none⟩ (.int .i64 c)).heap[k]? := (below_alloc (Below.refl _ _) _).block k (by rw [World.size_setCell]; exact hk)
    exact h1.trans (Below.heap_setCell w ⟨g, 0, none⟩ _ k hne)
theorem head_Ask.catch_idle (g : Nat) (w : World) :
    CallsD Try.prog 124 #[.pointer (some ⟨g, 0, none⟩)] .returning w fun e u' w' => e = .returned (.tuple #[]) ∧ u' = .returning ∧ w' = w := by
  refine callsD_of_wpS Try.func124 rfl fun c₀ cs hu => ?_
  apply wpS_seq
  apply wpS_region
  simp [wpOpsS, go_sem, recoverD, hu, Try.ntmps124, Exit.thenS]
  apply wpS_of_wp
  simp only [List.replicate, Array.replicate_succ, Array.replicate_zero, List.push_toArray, List.append_toArray, List.nil_append, List.cons_append, List.setIfInBounds_toArray, List.set_cons_succ, List.set_cons_zero]
  go_wp2
  cases c₀
  exact ⟨rfl, _, (by simp_all), _, results_none rfl _ _ _, rfl, rfl, rfl⟩
/-- The first row that can't be, and what is asked of the rows behind a row. -/
def Hd.askC (win low : Int) (rows : List S46) (L : Hd.A) : Int := if rows.length = 0 then 1 else if 200 < rows.length then 2 else match Hd.askF win low rows L with
  | .error c => c
  | .ok _ => 0
theorem head_Ask.give_up (g hb : Nat) (y c : Int) (tmps : Array Value) (w W : World) (hg : W.heap[g]? = some (.cells #[.int .i64 y] 29 (0, 0))) (hwg : w.heap.size ≤ g) (hB : Below w.heap.size w W) (t6 : (tmps[6]?.getD undef) = .pointer (some ⟨g, 0, none⟩)) :
    Leaves Try.prog Try.f80 tmps (fun e w' => e = .returned (.int .i64 c) ∧ Below w.heap.size w w') [{ target := .fn (.func 124) #[.pointer (some ⟨g, 0, none⟩)], args := #[] }] (.panicking [{ v := Hd.errV c, recovered := false }]) W := by
  refine leaves_cons (f := 124) (args := #[.pointer (some ⟨g, 0, none⟩)]) (by simp) (by simp [go_sem]) ?_
  refine (head_Ask.catch_panicking g y c _ hg).mono ?_
  rintro e u' w'' ⟨rfl, rfl, k1, k2, k3, o1, o2, o3⟩
  have e0 := (blk_cell k1 0).trans (show (#[Value.int .i64 c] : Array Value)[0]? = some (.int .i64 c) from rfl)
  have hu29 := Try.underlying29
  refine ⟨.int .i64 c, ?_, rfl, ?_⟩
  · simp [results, Try.results80, go_sem, t6, e0, hu29]
  · exact ⟨o1.trans hB.os, o2.trans hB.tape, o3.trans hB.output, Nat.le_trans hB.size k2, fun k hk => (k3 k (by have := hB.size; omega) (by omega)).trans (hB.block k hk)⟩
theorem head_Ask.give_back (g : Nat) (c : Int) (tmps : Array Value) (w W : World) (hg : W.heap[g]? = some (.cells #[.int .i64 c] 29 (0, 0))) (hB : Below w.heap.size w W) (t6 : (tmps[6]?.getD undef) = .pointer (some ⟨g, 0, none⟩)) :
    Leaves Try.prog Try.f80 tmps (fun e w' => e = .returned (.int .i64 c) ∧ Below w.heap.size w w') [{ target := .fn (.func 124) #[.pointer (some ⟨g, 0, none⟩)], args := #[] }] .returning W := by
  refine leaves_cons (f := 124) (args := #[.pointer (some ⟨g, 0, none⟩)]) (by simp) (by simp [go_sem]) ?_
  refine (head_Ask.catch_idle g _).mono ?_
  rintro e u' w'' ⟨rfl, rfl, rfl⟩
  have e0 := (blk_cell hg 0).trans (show (#[Value.int .i64 c] : Array Value)[0]? = some (.int .i64 c) from rfl)
  have hu29 := Try.underlying29
  refine ⟨.int .i64 c, ?_, rfl, hB⟩
  simp [results, Try.results80, go_sem, t6, e0, hu29]
set_option maxHeartbeats 8000000 in
set_option maxRecDepth 100000 in
theorem head_Ask.calls {base hb mb : Nat} {win : Int} {S : List Hd.Ent} (low : Int) (A : Option Addr) (c : Nat) (rows : List S46) (w : World) (hH : Hd.HR base hb mb win S w) (hC : Kd.C k46 w A rows.length rows) (hc : rows.length ≤ c) :
    Calls Try.prog 80 #[.pointer (some ⟨hb, 0, none⟩), .slice A rows.length c, .int .i64 low] w fun e w' => e = .returned (.int .i64 (Hd.askC win low rows (Hd.abs S))) ∧ Below w.heap.size w w' := by
  have hmm := @run_makeMap Try.prog
  have hmf : ∀ (fn : Fn) (first cap : Array Value) (w : World), (Instr.makeFunc fn first cap).run Try.prog w = .ok (.func fn first cap) w := fun _ _ _ _ => rfl
  by_cases h0 : rows.length = 0
  · have HA := Aside0.mk (show Hd.askC win low rows (Hd.abs S) = 1 by unfold Hd.askC; rw [if_pos h0])
    have h0z : (rows.length : Int) = 0 := by omega
    clear hH hC hc
    go_enter_defers Try.func80, Try.ntmps80
    go_wp2
    refine ⟨.int .i64 1, ?_, by rw [HA.out], below_alloc (Below.refl _ _) _⟩
    have hu29 := Try.underlying29
    have e0 := (blk_cell (blk_new w (.cells #[.int .i64 1] 29)) 0).trans (show (#[Value.int .i64 1] : Array Value)[0]? = some (.int .i64 1) from rfl)
    simp [results, Try.results80, go_sem, e0, hu29]
  · by_cases h2 : 200 < rows.length
    · have HA := Aside0.mk (show Hd.askC win low rows (Hd.abs S) = 2 by unfold Hd.askC; rw [if_neg h0, if_pos h2])
      have h0z : ¬ (rows.length : Int) = 0 := by omega
      have h0y : ((rows.length : Int) == 0) = false := by rw [beq_eq_false_iff_ne]; omega
      have h2z : (rows.length : Int) > 200 := by omega
      have h2y : (200 : Int) < (rows.length : Int) := by omega
      clear hH hC hc
      go_enter_defers Try.func80, Try.ntmps80
      go_wp2
      refine ⟨.int .i64 2, ?_, by rw [HA.out], below_alloc (Below.refl _ _) _⟩
      have hu29 := Try.underlying29
      have e0 := (blk_cell (blk_new w (.cells #[.int .i64 2] 29)) 0).trans (show (#[Value.int .i64 2] : Array Value)[0]? = some (.int .i64 2) from rfl)
      simp [results, Try.results80, go_sem, e0, hu29]
    · have HA := Aside0.mk (show Hd.askC win low rows (Hd.abs S) = match Hd.askF win low rows (Hd.abs S) with | .error c => c | .ok _ => 0 by unfold Hd.askC; rw [if_neg h0, if_neg h2])
      have h0z : ¬ (rows.length : Int) = 0 := by omega
      have h0y : ((rows.length : Int) == 0) = false := by rw [beq_eq_false_iff_ne]; omega
      have h2z : ¬ (rows.length : Int) > 200 := by omega
      have h2y : ¬ (200 : Int) < (rows.length : Int) := by omega
      have HH := Aside0.mk hH
      have HC := Aside0.mk hC
      have H200 := Aside0.mk (show rows.length ≤ 200 by omega)
      have hab : (Hd.abs S).length = S.length := by unfold Hd.abs; exact List.length_map ..
      clear hH hC hc h0 h2 hab
      go_enter_defers Try.func80, Try.ntmps80
      go_upto_block 0 with fail
      refine cwp_world ?_
      intro W1 hW1
      obtain ⟨g, hg⟩ : ∃ g, g = w.heap.size := ⟨_, rfl⟩
      have hb1 : Below w.heap.size w W1 := by rw [hW1]; exact below_alloc (Below.refl _ _) _
      have HG := Aside0.mk (show W1.heap[g]? = some (.cells #[.int .i64 0] 29 (0, 0)) by rw [hW1, hg]; exact blk_new _ _)
      have HH1 := Aside0.mk (HH.out.below hb1)
      have HC1 := Aside0.mk (Kd.C_below HC.out hb1)
      have HB1 := Aside0.mk hb1
      have HGW := Aside0.mk hg
      rw [← hg]
      clear hW1 hg hb1 HH HC
      go_wp2
      obtain ⟨W2, hW2⟩ : ∃ W2, W2 = (W1.alloc (.map #[] 0)).alloc (.cells #[.pointer (some ⟨hb, 0, none⟩), .map (some W1.heap.size), .int .i64 0, .int .i64 low] 184) := ⟨_, rfl⟩
      obtain ⟨nb, hnb⟩ : ∃ nb, nb = W1.heap.size := ⟨_, rfl⟩
      obtain ⟨ab, hab⟩ : ∃ ab, ab = nb + 1 := ⟨_, rfl⟩
      have HAS := Aside0.mk (show Hd.AS W1 hb ab nb low (Hd.abs S) (Hd.abs S) 0 (.map []) W2 from by
        rw [hW2, hab, hnb]
        refine ⟨⟨Nat.le_succ _, Nat.le_refl _⟩, ?_, (World.ownsMap_made W1 Try.prog 9 (plainElem Try.prog 3)).alloc _, ⟨(fun _ _ h => by cases h), (fun _ _ _ => rfl), Maps.tidy_empty⟩, HH1.out.ok, Nat.le_refl _, below_alloc (below_alloc (Below.refl _ _) _) _⟩
        have := blk_new (W1.alloc (.map #[] 0)) (.cells #[.pointer (some ⟨hb, 0, none⟩), .map (some W1.heap.size), .int .i64 0, .int .i64 low] 184)
        rw [World.size_alloc] at this
        rw [Int.sub_self]
        exact this)
      rw [← hW2, ← hnb, ← hab]
      clear hW2 hnb hab
      go_loopg [26] rows.length (fun kx v26 wr => ∃ (i : Nat) (L : Hd.A) (D : DataW Unit), v26 = .int .i64 i ∧ i ≤ rows.length ∧ rows.length - i ≤ kx ∧ Aside0 (Hd.AS W1 hb ab nb low (Hd.abs S) L i D wr) ∧ Aside0 (Hd.askF win low (rows.drop i) L = Hd.askF win low rows (Hd.abs S)))
      case atStart => exact ⟨0, _, _, rfl, Nat.zero_le _, Nat.le_refl _, HAS, ⟨rfl⟩⟩
      case round =>
        clear HAS
        obtain ⟨i, L, D, rfl, hi, hkx, HAS, HF⟩ := hrel
        by_cases hlt : i < rows.length
        · have hltz : (i : Int) < (rows.length : Int) := by omega
          have hi0 : (0 : Int) ≤ (i : Int) := by omega
          obtain ⟨ad, A1, c1, hA, x0, x1, x2, hc1, hC1⟩ := at_T46 HC1.out (i : Int) hi0 hltz
          subst hA
          have hrd : rd_T46 rows (i : Int) = rows[i] := by unfold rd_T46; simp [hlt]
          obtain ⟨x, hx⟩ : ∃ x, x = rows[i] := ⟨_, rfl⟩
          rw [hrd, ← hx] at x0 x1 x2 hc1 hC1
          rw [Int.toNat_natCast] at x0 x1 x2
          have y0 := pw_cell_below HAS.out.below x0
          have y1 := pw_cell_below HAS.out.below x1
          have y2 := pw_cell_below HAS.out.below x2
          have HF1 := Aside0.mk (show (match Hd.rowF win low L x with | .error e => .error e | .ok L' => Hd.askF win low (rows.drop (i + 1)) L') = Hd.askF win low rows (Hd.abs S) from by
            rw [← HF.out, List.drop_eq_getElem_cons hlt, ← hx]; rfl)
          have HROW := Aside0.mk (fun W (hb' : Below W1.heap.size W1 W) (hs : Hd.AS W1 hb ab nb low (Hd.abs S) L i D W) => head_row.calls W1 base hb mb ab nb win low S L i A1 c1 x W (Kd.C_below hC1 hb') hc1 HH1.out D hs (by have := H200.out; omega))
          clear hrd hx x0 x1 x2 hc1 hC1 HF
          obtain ⟨xl, hxl⟩ : ∃ xl, xl = x.f0.length := ⟨_, rfl⟩
          obtain ⟨xt, hxt⟩ : ∃ xt, xt = x.f1.f0 := ⟨_, rfl⟩
          obtain ⟨xv, hxv⟩ : ∃ xv, xv = x.f1.f1 := ⟨_, rfl⟩
          rw [← hxl, ← hxt, ← hxv] at HROW
          rw [← hxl] at y0
          rw [← hxt] at y1
          rw [← hxv] at y2
          clear hxl hxt hxv
          go_upto_region 10 with fail
          refine cwp_world ?_
          intro W4 hW4
          have hwr : Below wr.heap.size wr W4 := by rw [hW4]; exact below_alloc (Below.refl _ _) _
          have HAS4 := Aside0.mk (HAS.out.step hwr)
          have q0 : W4.cell? ⟨wr.heap.size, 0, none⟩ = some (.slice A1 xl c1) := by rw [hW4]; exact (blk_cell (blk_new _ _) 0).trans rfl
          have q1 : W4.cell? ⟨wr.heap.size, 1, none⟩ = some (.int .i64 xt) := by rw [hW4]; exact (blk_cell (blk_new _ _) 1).trans rfl
          have q2 : W4.cell? ⟨wr.heap.size, 2, none⟩ = some (.int .i64 xv) := by rw [hW4]; exact (blk_cell (blk_new _ _) 2).trans rfl
          have HRW := Aside0.mk (HROW.out W4 HAS4.out.below HAS4.out)
          obtain ⟨g4, hg4⟩ : ∃ g4, g4 = wr.heap.size := ⟨_, rfl⟩
          rw [← hg4] at q0 q1 q2 ⊢
          clear hW4 hwr hg4 y0 y1 y2 HROW HAS
          cases hrow : Hd.rowF win low L x with
          | error code =>
            have HE := Aside0.mk (show Hd.askF win low rows (Hd.abs S) = .error code from by rw [← HF1.out, hrow])
            have HRX := Aside0.mk hrow
            clear hrow HF1
            go_wp2_with (go_at_call 125; (with_reducible refine HRW.out.mono ?_); rintro e W5 ⟨hb5, hp⟩; rw [HRX.out] at hp; dsimp only at hp; subst hp; have HB5 := Aside0.mk hb5; clear hb5)
            have hfin := head_Ask.give_up g hb 0 code
            rw [HA.out, HE.out]
            exact hfin _ w W5 (blk_below HG.out (Below.mono HB5.out (Nat.le_refl _))) (by rw [HGW.out]; exact Nat.le_refl _) (below_step HB1.out HB5.out) rfl
          | ok L' =>
            have HE := Aside0.mk (show Hd.askF win low (rows.drop (i + 1)) L' = Hd.askF win low rows (Hd.abs S) from by rw [← HF1.out, hrow])
            have HRX := Aside0.mk hrow
            have him : i ≤ 9223372036854775806 := by have := H200.out; omega
            clear hrow HF1
            go_wp2_with (go_at_call 125; (with_reducible refine HRW.out.mono ?_); rintro e W5 ⟨hb5, hp⟩; rw [HRX.out] at hp; dsimp only at hp; obtain ⟨he, D', hs5⟩ := hp; subst he; have HAS5 := Aside0.mk hs5; clear hb5 hs5)
            go_roundg (rows.length - (i + 1))
            case measure => omega
            case rel => exact ⟨i + 1, L', D', by go_num, hlt, Nat.le_refl _, HAS5, HE⟩
        · have hltz : ¬ (i : Int) < (rows.length : Int) := by omega
          have HE := Aside0.mk (show Hd.askF win low rows (Hd.abs S) = .ok L from by rw [← HF.out, List.drop_of_length_le (show rows.length ≤ i by omega)]; rfl)
          have hgk := blk_below HG.out (Below.mono HAS.out.below (Nat.le_refl _))
          have r0 : wr.cell? ⟨g, 0, none⟩ = some (.int .i64 0) := (blk_cell hgk 0).trans rfl
          have r1 := blk_frozen hgk 0
          have HGK := Aside0.mk hgk
          clear hgk
          go_wp2
          have hfin := head_Ask.give_back g 0
          rw [HA.out, HE.out]
          exact hfin _ w _ (blk_put HGK.out 0 _ rfl) ((below_step HB1.out HAS.out.below).setCell (p := ⟨g, 0, none⟩) (by rw [HGW.out]; exact Nat.le_refl _) _) rfl
end
end Go.Proofs.Ytcgocdhffcnleaa.PHead

/- A part of the proofs about the head: see the theorems' own lines. -/
namespace Go.Proofs.Ytcgocdhffcnleaa.PHead
open Go Go.RowKit Go.Proofs.YtcgocdhffcnleaaW.PrintWords Go.Proofs.YtcgocdhffcnleaaW.PrintLast Go.Proofs.YtcgocdhffcnleaaW.PrintMore Go.Proofs.Ytcgocdhffcnleaa.XB Go.Proofs.Ytcgocdhffcnleaa.PHeadPlays Go.Proofs.Ytcgocdhffcnleaa.XH
set_option linter.unusedVariables false
set_option linter.unusedSimpArgs false
/-! ### May; a sample's place -/
section
set_option maxHeartbeats 4000000 in
theorem head_May.calls {base hb mb : Nat} {win : Int} {S : List Hd.Ent} (A : Option Addr) (c : Nat) (rows : List S46) (w : World) (hH : Hd.HR base hb mb win S w) (hC : Kd.C k46 w A rows.length rows) (hc : rows.length ≤ c) :
    Calls Try.prog 37 #[.pointer (some ⟨hb, 0, none⟩), .slice A rows.length c] w fun e w' => e = .returned (.int .i64 (Hd.askC win (-Hd.maxT) rows (Hd.abs S))) ∧ Below w.heap.size w w' := by
  have HASK := Aside0.mk (head_Ask.calls (-9007199254740992) A c rows w hH hC hc)
  clear hH hC hc
  go_enter Try.func37, Try.ntmps37
  go_wp2_with (go_at_call 80; (with_reducible refine HASK.out.mono ?_); rintro e w1 ⟨rfl, hb1⟩; have HB1 := Aside0.mk hb1; clear hb1)
  go_ret
  exact ⟨rfl, HB1.out⟩
/-- Where a time stands to a sample. -/
def Hd.cmpT (x : S44) (t : Int) : Int := if x.f0 < t then -1 else if t < x.f0 then 1 else 0
set_option maxHeartbeats 4000000 in
theorem head_place.calls (x : S44) (t : Int) (w : World) : Calls Try.prog 137 #[.agg #[.int .i64 x.f0, .int .i64 x.f1], .int .i64 t] w fun e w' => e = .returned (.int .i64 (Hd.cmpT x t)) ∧ Below w.heap.size w w' := by
  obtain ⟨x0, x1⟩ := x
  by_cases h1 : x0 < t
  · have HE := Aside0.mk (show Hd.cmpT ⟨x0, x1⟩ t = -1 by unfold Hd.cmpT; rw [if_pos h1])
    go_enter Try.func137, Try.ntmps137
    go_wp2
    go_ret
    exact ⟨by rw [HE.out]; rfl, below_alloc (Below.refl _ _) _⟩
  · by_cases h2 : t < x0
    · have HE := Aside0.mk (show Hd.cmpT ⟨x0, x1⟩ t = 1 by unfold Hd.cmpT; rw [if_neg h1, if_pos h2])
      have h2z : x0 > t := h2
      go_enter Try.func137, Try.ntmps137
      go_wp2
      go_ret
      exact ⟨by rw [HE.out]; rfl, below_alloc (Below.refl _ _) _⟩
    · have HE := Aside0.mk (show Hd.cmpT ⟨x0, x1⟩ t = 0 by unfold Hd.cmpT; rw [if_neg h1, if_neg h2])
      have h2z : ¬ x0 > t := h2
      go_enter Try.func137, Try.ntmps137
      go_wp2
      go_ret
      exact ⟨by rw [HE.out]; rfl, below_alloc (Below.refl _ _) _⟩
/-- How many samples stand below a time. -/
def Hd.pos : List S44 → Int → Nat
  | [], _ => 0
  | x :: xs, t => if x.f0 < t then Hd.pos xs t + 1 else 0
theorem Hd.pos_le : ∀ (xs : List S44) (t : Int), Hd.pos xs t ≤ xs.length
  | [], _ => Nat.le_refl _
  | x :: xs, t => by
    rw [Hd.pos]
    have := Hd.pos_le xs t
    split
    · rw [List.length_cons]; omega
    · exact Nat.zero_le _
theorem Hd.pos_low : ∀ {xs : List S44} {t : Int} {k : Nat} (hk : k < xs.length), k < Hd.pos xs t → xs[k].f0 < t
  | [], _, _, h, _ => by simp at h
  | x :: xs, t, k, hk, h => by
    rw [Hd.pos] at h
    split at h
    · rename_i hx
      cases k with
      | zero => exact hx
      | succ k => exact Hd.pos_low (xs := xs) (by simpa using hk) (by omega)
    · omega
theorem Hd.pos_high : ∀ {xs : List S44} {t : Int} (hr : Hd.rising xs) {k : Nat} (hk : k < xs.length), Hd.pos xs t ≤ k → t ≤ xs[k].f0
  | [], _, _, _, h, _ => by simp at h
  | x :: xs, t, hr, k, hk, h => by
    obtain ⟨h1, h2⟩ := List.pairwise_cons.1 hr
    rw [Hd.pos] at h
    split at h
    · cases k with
      | zero => omega
      | succ k => exact Hd.pos_high (xs := xs) h2 (by simpa using hk) (by omega)
    · rename_i hx
      cases k with
      | zero => show t ≤ x.f0; omega
      | succ k =>
        have hk' : k < xs.length := by simpa using hk
        have := h1 xs[k] (List.getElem_mem hk')
        show t ≤ xs[k].f0
        omega
theorem Hd.pos_eq {xs : List S44} {t : Int} (hr : Hd.rising xs) {i : Nat} (hi : i ≤ xs.length) (h1 : ∀ k (hk : k < xs.length), k < i → xs[k].f0 < t) (h2 : ∀ k (hk : k < xs.length), i ≤ k → t ≤ xs[k].f0) : Hd.pos xs t = i := by
  have hp := Hd.pos_le xs t
  rcases Nat.lt_trichotomy (Hd.pos xs t) i with h | h | h
  · have a := h1 (Hd.pos xs t) (by omega) h
    have b := Hd.pos_high hr (k := Hd.pos xs t) (by omega) (Nat.le_refl _)
    omega
  · exact h
  · have a := Hd.pos_low (xs := xs) (t := t) (k := i) (by omega) h
    have b := h2 i (by omega) (Nat.le_refl _)
    omega
/-- Is there a sample at a time? -/
def Hd.there (xs : List S44) (t : Int) : Bool := match xs[Hd.pos xs t]? with
  | some x => x.f0 == t
  | none => false
theorem Hd.putS_there : ∀ {xs : List S44} {s : S44}, Hd.there xs s.f0 = true → Hd.putS xs s = xs.set (Hd.pos xs s.f0) s
  | [], s, h => by simp [Hd.there, Hd.pos] at h
  | x :: xs, s, h => by
    unfold Hd.there at h
    rw [Hd.putS]
    by_cases hx : x.f0 < s.f0
    · rw [if_pos hx]
      rw [Hd.pos, if_pos hx] at h ⊢
      rw [List.getElem?_cons_succ] at h
      rw [List.set_cons_succ, Hd.putS_there (xs := xs) h]
    · rw [if_neg hx]
      rw [Hd.pos, if_neg hx] at h ⊢
      rw [List.getElem?_cons_zero] at h
      have : x.f0 = s.f0 := by simpa using h
      rw [if_pos this]
      rfl
theorem Hd.putS_new : ∀ {xs : List S44} {s : S44}, Hd.there xs s.f0 = false → Hd.putS xs s = xs.take (Hd.pos xs s.f0) ++ s :: xs.drop (Hd.pos xs s.f0)
  | [], s, h => rfl
  | x :: xs, s, h => by
    unfold Hd.there at h
    rw [Hd.putS]
    by_cases hx : x.f0 < s.f0
    · rw [if_pos hx]
      rw [Hd.pos, if_pos hx] at h ⊢
      rw [List.getElem?_cons_succ] at h
      rw [List.take_succ_cons, List.drop_succ_cons, Hd.putS_new (xs := xs) h]
      rfl
    · rw [if_neg hx]
      rw [Hd.pos, if_neg hx] at h ⊢
      rw [List.getElem?_cons_zero] at h
      have : ¬ x.f0 = s.f0 := by simpa using h
      rw [if_neg this]
      rfl
set_option maxHeartbeats 8000000 in
set_option maxRecDepth 100000 in
theorem head_search.calls (A : Option Addr) (c : Nat) (xs : List S44) (t : Int) (w : World) (hC : Kd.C k44 w A xs.length xs) (hr : Hd.rising xs) (hn : xs.length ≤ 1099511627776) :
    Calls Try.prog 138 #[.slice A xs.length c, .int .i64 t, .func (.func 137) #[] #[]] w fun e w' => e = .returned (.tuple #[.int .i64 (Hd.pos xs t : Nat), .bool (Hd.there xs t)]) ∧ Below w.heap.size w w' := by
  have HC := Aside0.mk hC
  have HR := Aside0.mk hr
  clear hC hr
  obtain ⟨n, hnn⟩ : ∃ n, n = xs.length := ⟨_, rfl⟩
  have HN := Aside0.mk hnn
  rw [← hnn] at hn ⊢
  clear hnn
  go_enter Try.func138, Try.ntmps138
  go_wp2
  go_loopg [9, 10] n (fun kx v9 v10 wr => ∃ i j : Nat, v9 = .int .i64 i ∧ v10 = .int .i64 j ∧ i ≤ j ∧ j ≤ n ∧ j - i ≤ kx ∧ Aside0 (∀ k (hk : k < xs.length), k < i → xs[k].f0 < t) ∧ Aside0 (∀ k (hk : k < xs.length), j ≤ k → t ≤ xs[k].f0) ∧ Aside0 (Below w.heap.size w wr))
  case atStart => exact ⟨0, n, rfl, rfl, Nat.zero_le _, Nat.le_refl _, by omega, ⟨fun k hk h => absurd h (Nat.not_lt_zero _)⟩, ⟨fun k hk h => by have := HN.out; omega⟩, ⟨Below.refl _ _⟩⟩
  case round =>
    obtain ⟨i, j, rfl, rfl, hij, hj, hkx, HLO, HHI, HB⟩ := hrel
    by_cases hlt : i < j
    · have hltz : (i : Int) < (j : Int) := by omega
      obtain ⟨h, hh⟩ : ∃ h, h = (i + j) / 2 := ⟨_, rfl⟩
      have hhi : i ≤ h := by omega
      have hhj : h < j := by omega
      have hhn : h < xs.length := by have := HN.out; omega
      obtain ⟨ad, hA, x0, x1⟩ := at_T44 HC.out (h : Int) (by omega) (by omega)
      subst hA
      have hrd : rd_T44 xs (h : Int) = xs[h] := by unfold rd_T44; simp [hhn]
      obtain ⟨x, hx⟩ : ∃ x, x = xs[h] := ⟨_, rfl⟩
      rw [hrd, ← hx, Int.toNat_natCast] at x0 x1
      have y0 := pw_cell_below HB.out x0
      have y1 := pw_cell_below HB.out x1
      have HX := Aside0.mk hx
      have HPL := Aside0.mk (fun W => head_place.calls x t W)
      clear hrd hx x0 x1
      have hmid : ((i : Int) + (j : Int)) / 2 = (h : Int) := by omega
      have hhz : (h : Int) < (n : Int) := by have := HN.out; omega
      have hh0 : (0 : Int) ≤ (h : Int) := by omega
      have hhm : h ≤ 9223372036854775806 := by omega
      have HHH := Aside0.mk (And.intro hhi hhj)
      clear hh hhi hhj
      by_cases hc : x.f0 < t
      · have HE := Aside0.mk (show Hd.cmpT x t = -1 by unfold Hd.cmpT; rw [if_pos hc])
        rw [HE.out] at HPL
        have HCX := Aside0.mk hc
        clear hc
        go_wp2_with (go_at_call 137; (with_reducible refine (HPL.out _).mono ?_); rintro e w2 ⟨rfl, hb2⟩; have HB2 := Aside0.mk (below_step HB.out hb2); clear hb2)
        go_roundg (j - (h + 1))
        case measure => have := HHH.out; omega
        case rel =>
          refine ⟨h + 1, j, by go_num, rfl, by have := HHH.out; omega, hj, Nat.le_refl _, ⟨fun k hk hkh => ?_⟩, HHI, HB2⟩
          rcases Nat.lt_or_ge k h with h5 | h5
          · have h6 := List.pairwise_iff_getElem.1 HR.out k h hk hhn h5
            have := HCX.out
            rw [HX.out] at this
            omega
          · obtain rfl : k = h := by omega
            have := HCX.out
            rw [HX.out] at this
            exact this
      · have HE := Aside0.mk (show ¬ Hd.cmpT x t < 0 by unfold Hd.cmpT; rw [if_neg hc]; split <;> omega)
        have HCX := Aside0.mk hc
        obtain ⟨cv, hcv⟩ : ∃ cv, cv = Hd.cmpT x t := ⟨_, rfl⟩
        rw [← hcv] at HPL HE
        have hcz : ¬ cv < 0 := HE.out
        clear hc hcv HE
        go_wp2_with (go_at_call 137; (with_reducible refine (HPL.out _).mono ?_); rintro e w2 ⟨rfl, hb2⟩; have HB2 := Aside0.mk (below_step HB.out hb2); clear hb2)
        go_roundg (h - i)
        case measure => have := HHH.out; omega
        case rel =>
          refine ⟨i, h, rfl, rfl, HHH.out.1, by have := HHH.out; omega, Nat.le_refl _, HLO, ⟨fun k hk hkh => ?_⟩, HB2⟩
          rcases Nat.lt_or_ge h k with h5 | h5
          · have h6 := List.pairwise_iff_getElem.1 HR.out h k hhn hk h5
            have := HCX.out
            rw [HX.out] at this
            omega
          · obtain rfl : k = h := by omega
            have := HCX.out
            rw [HX.out] at this
            omega
    · obtain rfl : j = i := by omega
      have HP := Aside0.mk (Hd.pos_eq (xs := xs) (t := t) HR.out (i := j) (by have := HN.out; omega) HLO.out HHI.out)
      have hltz : ¬ (j : Int) < (j : Int) := by omega
      by_cases hjn : j < n
      · have hjz : (j : Int) < (n : Int) := by omega
        have hjx : j < xs.length := by have := HN.out; omega
        obtain ⟨ad, hA, x0, x1⟩ := at_T44 HC.out (j : Int) (by omega) (by omega)
        subst hA
        have hrd : rd_T44 xs (j : Int) = xs[j] := by unfold rd_T44; simp [hjx]
        obtain ⟨x, hx⟩ : ∃ x, x = xs[j] := ⟨_, rfl⟩
        rw [hrd, ← hx, Int.toNat_natCast] at x0 x1
        have y0 := pw_cell_below HB.out x0
        have y1 := pw_cell_below HB.out x1
        have HPL := Aside0.mk (fun W => head_place.calls x t W)
        have HTH := Aside0.mk (show Hd.there xs t = (Hd.cmpT x t == 0) from by
          unfold Hd.there Hd.cmpT
          rw [HP.out, List.getElem?_eq_getElem hjx, ← hx]
          have hge := HHI.out j hjx (Nat.le_refl _)
          rw [← hx] at hge
          rw [if_neg (by omega)]
          show (x.f0 == t) = _
          by_cases he : x.f0 = t
          · rw [if_neg (by omega), he]; simp
          · rw [if_pos (by omega), beq_eq_false_iff_ne.2 he]; rfl)
        have hh0 : (0 : Int) ≤ (j : Int) := by omega
        obtain ⟨cv, hcv⟩ : ∃ cv, cv = Hd.cmpT x t := ⟨_, rfl⟩
        rw [← hcv] at HPL HTH
        clear hrd hx x0 x1 hcv
        go_wp2_with (go_at_call 137; (with_reducible refine (HPL.out _).mono ?_); rintro e w2 ⟨rfl, hb2⟩; have HB2 := Aside0.mk (below_step HB.out hb2); clear hb2)
        go_ret2
        exact ⟨by rw [HP.out, HTH.out]; rfl, HB2.out⟩
      · have hjz : ¬ (j : Int) < (n : Int) := by omega
        have HTH := Aside0.mk (show Hd.there xs t = false from by
          unfold Hd.there
          rw [HP.out, List.getElem?_eq_none (by have := HN.out; omega)])
        go_wp2_with fail
        go_ret2
        exact ⟨by rw [HP.out, HTH.out]; rfl, HB.out⟩
end
end Go.Proofs.Ytcgocdhffcnleaa.PHead
