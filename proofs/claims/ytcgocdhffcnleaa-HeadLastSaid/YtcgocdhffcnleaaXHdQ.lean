/- A part of the proofs about the head: see the theorems' own lines. -/
import Derived.Test.YtcgocdhffcnleaaXHdP
import Derived.Lib.Overlaps
import Derived.Laws.CopyOwn
import Derived.Laws.IdiomCopy
import Derived.Lib.AppendZeros
import Derived.StillTailTactics
import Derived.Outline
namespace Go.Proofs.Ytcgocdhffcnleaa.PHead
open Go Go.RowKit Go.Proofs.YtcgocdhffcnleaaW.PrintWords Go.Proofs.YtcgocdhffcnleaaW.PrintLast Go.Proofs.YtcgocdhffcnleaaW.PrintMore Go.Proofs.Ytcgocdhffcnleaa.XB Go.Proofs.Ytcgocdhffcnleaa.PHeadPlays Go.Proofs.Ytcgocdhffcnleaa.XH
set_option linter.unusedVariables false
set_option linter.unusedSimpArgs false
section
theorem Hd.len_le_cnt : ∀ {L : Hd.A} {p : List S53 × List S44}, p ∈ L → p.2.length ≤ Hd.cnt L
  | q :: L, p, h => by
    rcases List.mem_cons.1 h with h1 | h1
    · rw [h1]; simp [Hd.cnt]
    · have := Hd.len_le_cnt h1
      simp only [Hd.cnt, List.map_cons, List.sum_cons] at this ⊢
      omega
theorem Hd.cnt_putL {L : Hd.A} (hs : Hd.sorted L) (m : List S53) (s : S44) : Hd.cnt (Hd.putL L m s) ≤ Hd.cnt L + 1 := by
  have h := Hd.cnt_setA (m := m) (xs := Hd.putS ((Hd.find L m).getD []) s) hs
  have h2 := (Hd.putS_len ((Hd.find L m).getD []) s).2
  unfold Hd.putL
  omega
theorem Hd.rowF_err {win low c : Int} {L : Hd.A} {r : S46} (h : Hd.rowF win low L r = .error c) : c ≠ 0 := by
  unfold Hd.rowF at h
  cases hm : Hl.mk r.f0 with
  | none => rw [hm] at h; injection h with h; omega
  | some m =>
    rw [hm] at h
    simp only at h
    split at h
    · injection h with h; omega
    · split at h
      · injection h with h; omega
      · split at h
        · split at h
          · injection h with h; omega
          · cases h
        · split at h
          · injection h with h; omega
          · cases h
theorem Hd.askF_err {win low c : Int} : ∀ {rows : List S46} {L : Hd.A}, Hd.askF win low rows L = .error c → c ≠ 0
  | [], L, h => by cases h
  | r :: rs, L, h => by
    rw [Hd.askF] at h
    cases hr : Hd.rowF win low L r with
    | error e => rw [hr] at h; injection h with h; rw [← h]; exact Hd.rowF_err hr
    | ok L' => rw [hr] at h; exact Hd.askF_err h
theorem head_put.calls (base hb mb : Nat) (win : Int) (S : List Hd.Ent) (Am : Option Addr) (cm : Nat) (m : List S53) (s : S44) (W : World) (hH : Hd.HR base hb mb win S W) (hm : Hl.made m) (hR : k53.R 53 W base (fun _ => True) (.slice Am m.length cm) m)
    (hok : Hd.Ok (Hd.putL (Hd.abs S) m s)) (hct : Hd.cnt (Hd.abs S) ≤ 1099511627776) :
    Calls Try.prog 115 #[.pointer (some ⟨hb, 0, none⟩), .slice Am m.length cm, .agg #[.int .i64 s.f0, .int .i64 s.f1]] W fun e' w' => head_put.Post base hb mb win S m (.slice Am m.length cm) s W e' w' := by
  cases hf : Hd.find (Hd.abs S) m with
  | none => exact head_put.fresh base hb mb win S Am cm m s W hH hm hR hok hf hct
  | some xs =>
    obtain ⟨e, he, hel, hex⟩ := Hd.find_ent hf
    have hl : e.xs.length ≤ 1099511627776 := Nat.le_trans (Hd.len_le_cnt (L := Hd.abs S) (p := (e.ls, e.xs)) (List.mem_map_of_mem (f := fun e : Hd.Ent => (e.ls, e.xs)) he)) hct
    cases hth : Hd.there e.xs s.f0 with
    | true => exact head_put.over base hb mb win S Am cm m s W hH hm hR hok e he hel hl hth
    | false => exact head_put.add base hb mb win S Am cm m s W hH hm hR hok e he hel hl hth hct
set_option maxHeartbeats 8000000 in
set_option maxRecDepth 100000 in
theorem head_Put.calls {base hb mb : Nat} {win : Int} {S : List Hd.Ent} (low : Int) (A : Option Addr) (c : Nat) (rows : List S46) (w : World) (hH : Hd.HR base hb mb win S w) (ok : Nat → Prop) (hF : Kd.F k46 w ok A rows.length rows) (hok : ∀ k, ok k → k < w.heap.size → ¬ Hd.Own hb mb S k)
    (L' : Hd.A) (hask : Hd.askF win low rows (Hd.abs S) = .ok L') (hct : Hd.cnt (Hd.abs S) + rows.length ≤ 1099511627776) :
    Calls Try.prog 72 #[.pointer (some ⟨hb, 0, none⟩), .slice A rows.length c] w fun e w' => e = .returned (.tuple #[]) ∧ ∃ S', Hd.HR base hb mb win S' w' ∧ Hd.abs S' = L' ∧ Hd.Fr (Hd.Own hb mb S) (Hd.Own hb mb S') w w' := by
  have HH := Aside0.mk hH
  have HF0 := Aside0.mk (Kd.F_bound hF)
  have HOK := Aside0.mk hok
  have HASK := Aside0.mk hask
  have HCT := Aside0.mk hct
  have hrl : rows.length ≤ 1099511627776 := by omega
  have hown : ∀ k, Hd.Own hb mb S k → k < w.heap.size := fun k hk => (hH.lt k hk).2
  clear hH hF hok hask hct hown
  go_enter Try.func72, Try.ntmps72
  go_wp2
  go_loopg [10] rows.length (fun kx v10 wr => ∃ (i : Nat) (S1 : List Hd.Ent), v10 = .int .i64 i ∧ i ≤ rows.length ∧ rows.length - i ≤ kx ∧ Aside0 (Hd.HR base hb mb win S1 wr) ∧ Aside0 (Hd.askF win low (rows.drop i) (Hd.abs S1) = .ok L') ∧ Aside0 (Hd.Fr (Hd.Own hb mb S) (Hd.Own hb mb S1) w wr) ∧ Aside0 (Hd.cnt (Hd.abs S1) + (rows.length - i) ≤ 1099511627776))
  case atStart => exact ⟨0, S, rfl, Nat.zero_le _, Nat.le_refl _, HH, HASK, ⟨Hd.Fr.refl _ _⟩, HCT⟩
  case round =>
    clear HH HASK HCT
    obtain ⟨i, S1, rfl, hi, hkx, HH1, HF, HFR, HCT1⟩ := hrel
    by_cases hlt : i < rows.length
    · have hltz : (i : Int) < (rows.length : Int) := by omega
      have hi0 : (0 : Int) ≤ (i : Int) := by omega
      have hFr := Kd.F_now (Kd.F_step HF0.out (W1 := wr) (fun k hk hlt => HFR.out.blk k hlt (HOK.out k hk.1 hlt)))
      obtain ⟨ad, A1, c1, hA, y0, y1, y2, hc1, hC1⟩ := at_T46 hFr (i : Int) hi0 hltz
      subst hA
      have hrd : rd_T46 rows (i : Int) = rows[i] := by unfold rd_T46; simp [hlt]
      obtain ⟨x, hx⟩ : ∃ x, x = rows[i] := ⟨_, rfl⟩
      rw [hrd, ← hx] at y0 y1 y2 hc1 hC1
      rw [Int.toNat_natCast] at y0 y1 y2
      have hask1 : (match Hd.rowF win low (Hd.abs S1) x with | .error e => Except.error e | .ok L2 => Hd.askF win low (rows.drop (i + 1)) L2) = Except.ok L' := by
        rw [← HF.out, List.drop_eq_getElem_cons hlt, ← hx]; rfl
      obtain ⟨L2, hrow⟩ : ∃ L2, Hd.rowF win low (Hd.abs S1) x = .ok L2 := by
        cases h : Hd.rowF win low (Hd.abs S1) x with
        | error e => rw [h] at hask1; cases hask1
        | ok L2 => exact ⟨L2, rfl⟩
      rw [hrow] at hask1
      obtain ⟨hok2, m, hm, hL2, _, _⟩ := Hd.rowF_ok HH1.out.ok hrow
      have HMK := Aside0.mk (fun W' (hb : Below wr.heap.size wr W') => labels_Make.calls A1 c1 x.f0 W' (Kd.C_below hC1 hb) hc1)
      have HA1 := Aside0.mk hask1
      have HM := Aside0.mk hm
      have HL2 := Aside0.mk hL2
      have HOK2 := Aside0.mk hok2
      have him : i ≤ 9223372036854775806 := by omega
      clear hFr hrd hx hc1 hC1 hask1 hrow hok2 hm hL2
      obtain ⟨xl, hxl⟩ : ∃ xl, xl = x.f0.length := ⟨_, rfl⟩
      obtain ⟨s, hs⟩ : ∃ s, s = x.f1 := ⟨_, rfl⟩
      rw [← hxl] at HMK y0
      rw [← hs] at y1 y2 HL2
      clear hxl hs
      go_upto_region 3 with fail
      refine cwp_world ?_
      intro W4 hW4
      obtain ⟨g4, hg4⟩ : ∃ g4, g4 = wr.heap.size := ⟨_, rfl⟩
      have hb4 : Below wr.heap.size wr W4 := by rw [hW4]; exact below_alloc (Below.refl _ _) _
      have HBK4 := Aside0.mk (show W4.heap[g4]? = some (.cells #[.slice A1 xl c1, .int .i64 s.f0, .int .i64 s.f1] 46 (0, 0)) by rw [hW4, hg4]; exact blk_new _ _)
      have q0 : W4.cell? ⟨g4, 0, none⟩ = some (.slice A1 xl c1) := (blk_cell HBK4.out 0).trans rfl
      have HMK4 := Aside0.mk (HMK.out W4 hb4)
      have HB4 := Aside0.mk hb4
      have HMD := Aside0.mk (Hl.mk_made HM.out).1
      rw [← hg4]
      clear hW4 hg4 hb4 y0 y1 y2 HMK
      go_upto_region 5 with (go_at_call 101; (with_reducible refine HMK4.out.mono ?_); rintro e W5 ⟨hb5, hp⟩; rw [HM.out] at hp; dsimp only at hp; obtain ⟨mv, he, hr⟩ := hp; subst he; obtain ⟨Am, cm, ev⟩ := Kd.R_slice hr; subst ev; have HRM := Aside0.mk hr; have HB5 := Aside0.mk (below_step HB4.out hb5); have HBK5 := Aside0.mk (blk_below HBK4.out hb5); clear hb5 hr)
      have q1 := (blk_cell HBK5.out 1).trans (show (#[.slice A1 xl c1, .int .i64 s.f0, .int .i64 s.f1] : Array Value)[1]? = some (.int .i64 s.f0) from rfl)
      have q2 := (blk_cell HBK5.out 2).trans (show (#[.slice A1 xl c1, .int .i64 s.f0, .int .i64 s.f1] : Array Value)[2]? = some (.int .i64 s.f1) from rfl)
      have HH5 := Aside0.mk (HH1.out.below HB5.out)
      have hbase : base ≤ W4.heap.size := by
        have h1 := HH1.out.lt hb (.inl rfl)
        have h2 := HB4.out.size
        omega
      have HLV := Aside0.mk (show ∀ k, (Value.slice Am m.length cm).ownBlock = some k → wr.heap.size ≤ k from fun k hk => Nat.le_trans HB4.out.size (Kd.R_base HRM.out k hk))
      have HPUT := Aside0.mk (head_put.calls base hb mb win S1 Am cm m s W5 HH5.out HMD.out (Kd.R_lower HRM.out hbase) (by rw [← HL2.out]; exact HOK2.out) (by have := HCT1.out; omega))
      clear HMK4 HBK4 HRM hbase
      go_wp2_with (go_at_call 115; (with_reducible refine HPUT.out.mono ?_); rintro e W6 ⟨rfl, S2, hh6, habs6, hfr6⟩; have HH6 := Aside0.mk hh6; have HA6 := Aside0.mk habs6; have HFR6 := Aside0.mk hfr6; clear hh6 habs6 hfr6)
      go_roundg (rows.length - (i + 1))
      case measure => omega
      case rel =>
        refine ⟨i + 1, S2, by go_num, hlt, Nat.le_refl _, HH6, ⟨?_⟩, ⟨?_⟩, ⟨?_⟩⟩
        · rw [HA6.out, ← HL2.out]
          exact HA1.out
        · have h1 : Hd.Fr (Hd.Own hb mb S) (fun k => Hd.Own hb mb S1 k ∨ (Value.slice Am m.length cm).ownBlock = some k) w W5 :=
            (HFR.out.trans (Hd.Fr.of_below HB5.out)).mono (fun k hk => by
              rcases hk with hk | hk
              · exact .inl hk
              · exact .inr (Nat.le_trans HFR.out.size (HLV.out k hk)))
          exact h1.trans HFR6.out
        · rw [HA6.out]
          have h1 := Hd.cnt_putL HH1.out.ok.sorted m s
          have h2 := HCT1.out
          omega
    · have hltz : ¬ (i : Int) < (rows.length : Int) := by omega
      go_wp2_with fail
      go_end0
      refine ⟨rfl, S1, HH1.out, ?_, HFR.out⟩
      have := HF.out
      rw [List.drop_of_length_le (show rows.length ≤ i by omega)] at this
      injection this
set_option maxHeartbeats 8000000 in
set_option maxRecDepth 100000 in
theorem head_Write.calls {base hb mb : Nat} {win : Int} {S : List Hd.Ent} (A : Option Addr) (c : Nat) (rows : List S46) (w : World) (hH : Hd.HR base hb mb win S w) (ok : Nat → Prop) (hF : Kd.F k46 w ok A rows.length rows) (hok : ∀ k, ok k → k < w.heap.size → ¬ Hd.Own hb mb S k) (hc : rows.length ≤ c)
    (hct : Hd.cnt (Hd.abs S) + 200 ≤ 1099511627776) :
    Calls Try.prog 23 #[.pointer (some ⟨hb, 0, none⟩), .slice A rows.length c] w fun e w' => e = .returned (.int .i64 (Hd.writeF win (Hd.abs S) rows).1) ∧ ∃ S', Hd.HR base hb mb win S' w' ∧ Hd.abs S' = (Hd.writeF win (Hd.abs S) rows).2 ∧ Hd.Fr (Hd.Own hb mb S) (Hd.Own hb mb S') w w' := by
  have HMAY := Aside0.mk (head_May.calls A c rows w hH (Kd.F_now hF) hc)
  have HH := Aside0.mk hH
  have HF0 := Aside0.mk hF
  have HOK := Aside0.mk hok
  by_cases hcode : Hd.askC win (-Hd.maxT) rows (Hd.abs S) = 0
  · have hW : ¬ rows.length = 0 ∧ ¬ 200 < rows.length ∧ ∃ L', Hd.askF win (-Hd.maxT) rows (Hd.abs S) = .ok L' ∧ Hd.writeF win (Hd.abs S) rows = (0, L') := by
      unfold Hd.askC at hcode
      unfold Hd.writeF
      by_cases h1 : rows.length = 0
      · rw [if_pos h1] at hcode; omega
      · rw [if_neg h1] at hcode ⊢
        by_cases h2 : 200 < rows.length
        · rw [if_pos h2] at hcode; omega
        · rw [if_neg h2] at hcode ⊢
          refine ⟨h1, h2, ?_⟩
          cases h3 : Hd.askF win (-Hd.maxT) rows (Hd.abs S) with
          | error c => rw [h3] at hcode; exact absurd hcode (Hd.askF_err h3)
          | ok L' => exact ⟨L', rfl, rfl⟩
    obtain ⟨h1, h2, L', h3, h4⟩ := hW
    have HPUT := Aside0.mk (fun W (hb' : Below w.heap.size w W) => head_Put.calls (-Hd.maxT) A c rows W (HH.out.below hb') (fun k => ok k ∧ k < w.heap.size) (Kd.F_below (Kd.F_bound HF0.out) hb') (fun k hk _ => HOK.out k hk.1 hk.2) L' h3 (by omega))
    have HWF := Aside0.mk h4
    rw [hcode] at HMAY
    clear hH hF hok hct hc hcode h1 h2 h3 h4
    go_enter Try.func23, Try.ntmps23
    go_wp2_with (first | (go_at_call 37; (with_reducible refine HMAY.out.mono ?_); rintro e W1 ⟨rfl, hb1⟩; have HB1 := Aside0.mk hb1; clear hb1) | (go_at_call 72; (with_reducible refine (HPUT.out _ HB1.out).mono ?_); rintro e W2 ⟨rfl, S', hh2, ha2, hf2⟩; have HH2 := Aside0.mk hh2; have HA2 := Aside0.mk ha2; have HF2 := Aside0.mk hf2; clear hh2 ha2 hf2))
    go_ret
    exact ⟨by rw [HWF.out]; rfl, S', HH2.out, by rw [HWF.out]; exact HA2.out, (Hd.Fr.of_below HB1.out).trans HF2.out⟩
  · have HWF := Aside0.mk (show Hd.writeF win (Hd.abs S) rows = (Hd.askC win (-Hd.maxT) rows (Hd.abs S), Hd.abs S) from by
      unfold Hd.askC at hcode ⊢
      unfold Hd.writeF
      by_cases h1 : rows.length = 0
      · rw [if_pos h1, if_pos h1]
      · rw [if_neg h1] at hcode
        rw [if_neg h1, if_neg h1]
        by_cases h2 : 200 < rows.length
        · rw [if_pos h2, if_pos h2]
        · rw [if_neg h2] at hcode
          rw [if_neg h2, if_neg h2]
          cases h3 : Hd.askF win (-Hd.maxT) rows (Hd.abs S) with
          | error c => rfl
          | ok L' => rw [h3] at hcode; exact absurd rfl hcode)
    obtain ⟨cv, hcv⟩ : ∃ cv, cv = Hd.askC win (-Hd.maxT) rows (Hd.abs S) := ⟨_, rfl⟩
    rw [← hcv] at HMAY HWF hcode
    have hcz : (cv != 0) = true := bne_iff_ne.2 hcode
    clear hH hF hok hct hc hcv
    go_enter Try.func23, Try.ntmps23
    go_wp2_with (first | (go_at_call 37; (with_reducible refine HMAY.out.mono ?_); rintro e W1 ⟨rfl, hb1⟩; have HB1 := Aside0.mk hb1; clear hb1))
    go_ret
    exact ⟨by rw [HWF.out]; rfl, S, HH.out.below HB1.out, by rw [HWF.out], Hd.Fr.of_below HB1.out⟩
end
end Go.Proofs.Ytcgocdhffcnleaa.PHead
