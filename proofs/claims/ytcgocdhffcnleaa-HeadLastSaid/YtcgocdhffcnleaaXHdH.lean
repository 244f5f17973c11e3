/- A part of the proofs about the head: see the theorems' own lines. -/
import Derived.Test.YtcgocdhffcnleaaXHdG
import Derived.StringKeys
import Derived.Outline
namespace Go.Proofs.Ytcgocdhffcnleaa.PHead
open Go Go.RowKit Go.Proofs.YtcgocdhffcnleaaW.PrintWords Go.Proofs.YtcgocdhffcnleaaW.PrintLast Go.Proofs.YtcgocdhffcnleaaW.PrintMore Go.Proofs.Ytcgocdhffcnleaa.XB Go.Proofs.Ytcgocdhffcnleaa.PHeadPlays Go.Proofs.Ytcgocdhffcnleaa.XH
set_option linter.unusedVariables false
set_option linter.unusedSimpArgs false
/-! ### looking a series up -/
namespace Hd
open Go.Maps
theorem law9 : Keyed Try.prog 9 := string_keyed Try.underlying9
theorem zero117 (W : World) : (zeroValue 117).run Try.prog W = .ok (.pointer none) W := by kernel_rfl
theorem txt_size {m : List S53} (h : Hl.made m) : (⟨(Hl.txtB m).toArray⟩ : ByteArray).size ≤ maxLen := by
  have h1 := Hl.cont_len h.2.1
  have h2 := Hl.cont_txt h.2.2.1
  have h3 := h.2.2.2
  have : (Hl.txtB m).length ≤ 16 * 261 + 1 := by rw [← h2, List.length_append, List.length_singleton]; omega
  show ((Hl.txtB m).toArray).size ≤ maxLen
  rw [List.size_toArray]
  unfold maxLen
  omega
theorem keyOf_txt {m : List S53} (h : Hl.made m) : keyOf Try.prog 9 (.string (Hl.txt m)) = some (key m) := by
  rw [Hl.txt_made h, WideMaps.keyOf_string_mk Try.underlying9 (txt_size h)]
  rfl
theorem keyOf_txt' (l : List S53) : ∃ kl, keyOf Try.prog 9 (.string (Hl.txt l)) = some kl ∧ ((∃ m, Hl.mk l = some m ∧ kl = key m) ∨ (Hl.mk l = none ∧ kl = .string [])) := by
  cases h : Hl.mk l with
  | none =>
    refine ⟨.string [], ?_, .inr ⟨rfl, rfl⟩⟩
    unfold Hl.txt
    rw [h, WideMaps.keyOf_string_mk Try.underlying9 (by show (#[] : Array UInt8).size ≤ maxLen; simp)]
  | some m =>
    refine ⟨key m, ?_, .inl ⟨m, rfl, rfl⟩⟩
    unfold Hl.txt
    rw [h, WideMaps.keyOf_string_mk Try.underlying9 (txt_size (Hl.mk_made h).1)]
    rfl
/-- A look-up of a series that is there. -/
theorem HR.look_hit {base hb mb : Nat} {win : Int} {S : List Ent} {W : World} (h : HR base hb mb win S W) {e : Ent} (he : e ∈ S) {s : ByteArray} (hs : keyOf Try.prog 9 (.string s) = some (key e.ls)) :
    (Instr.lookup 113 (.map (some mb)) (.string s) false).run Try.prog W = .ok (.pointer (some ⟨e.g, 0, none⟩)) W := by
  obtain ⟨D, hm, hD⟩ := h.map
  obtain ⟨v, ps, hrun, hv⟩ := hm.lookup law9 Try.underlying113 (zero117 W) RP_nil hs
  rw [(hD.hit e he).2] at hv
  rw [hrun, RP_at hv]
theorem HR.look_miss {base hb mb : Nat} {win : Int} {S : List Ent} {W : World} (h : HR base hb mb win S W) {s : ByteArray} {kl : Lit} (hs : keyOf Try.prog 9 (.string s) = some kl) (hk : ∀ e ∈ S, kl ≠ key e.ls) :
    (Instr.lookup 113 (.map (some mb)) (.string s) false).run Try.prog W = .ok (.pointer none) W := by
  obtain ⟨D, hm, hD⟩ := h.map
  obtain ⟨v, ps, hrun, hv⟩ := hm.lookup law9 Try.underlying113 (zero117 W) RP_nil hs
  have hn : Maps.has D kl = false := by
    cases hh : Maps.has D kl with
    | false => rfl
    | true =>
      obtain ⟨e, he, h2⟩ := hD.keys kl hh
      exact absurd h2 (hk e he)
  rw [Maps.atKey_of_not_has hn] at hv
  rw [hrun, RP_none hv]
theorem made_of {base hb mb : Nat} {win : Int} {S : List Ent} {W : World} (h : HR base hb mb win S W) {e : Ent} (he : e ∈ S) : Hl.made e.ls :=
  h.ok.made (e.ls, e.xs) (List.mem_map_of_mem he)
theorem ne_of {base hb mb : Nat} {win : Int} {S : List Ent} {W : World} (h : HR base hb mb win S W) {e : Ent} (he : e ∈ S) : e.xs ≠ [] :=
  h.ok.ne (e.ls, e.xs) (List.mem_map_of_mem he)
theorem find_ent {S : List Ent} {m : List S53} {xs : List S44} (h : find (abs S) m = some xs) : ∃ e ∈ S, e.ls = m ∧ e.xs = xs := by
  obtain ⟨e, he, h2⟩ := List.mem_map.1 (find_mem h)
  injection h2 with h2 h3
  exact ⟨e, he, h2, h3⟩
theorem find_ent_none {S : List Ent} {m : List S53} (h : find (abs S) m = none) : ∀ e ∈ S, e.ls ≠ m := fun e he => find_none.1 h (e.ls, e.xs) (List.mem_map_of_mem he)
theorem miss_keys {base hb mb : Nat} {win : Int} {S : List Ent} {W : World} (h : HR base hb mb win S W) {m : List S53} (hm : Hl.made m) (hf : find (abs S) m = none) : ∀ e ∈ S, key m ≠ key e.ls :=
  fun e he hk => find_ent_none hf e he (key_inj (made_of h he) hm hk.symm)
end Hd
theorem R44_cells {W : World} {base g n cap : Nat} {xs : List S44} (h : k44.R 44 W base (fun _ => True) (.slice (some ⟨g, 0, none⟩) n cap) xs) : n = xs.length ∧ n ≤ cap ∧ base ≤ g ∧ ∃ cur, W.heap[g]? = some (.cells cur 44 (0, 0)) ∧ cur.size = cap * 2 ∧ ∀ (j : Nat) (x : S44), xs[j]? = some x → W.cell? ⟨g, j * 2, none⟩ = some (.int .i64 x.f0) ∧ W.cell? ⟨g, j * 2 + 1, none⟩ = some (.int .i64 x.f1) := by
  obtain ⟨hn, hc, hC⟩ := Kd.R_reads' h
  obtain ⟨inner, ho⟩ := Kd.R_own h
  refine ⟨hn, hc, own_base ho g rfl, ?_⟩
  rcases ho.2 with ⟨hv, hz⟩ | ⟨g', cap', cur, hv, hb, hh, h1, h2, h3, h4⟩
  · cases hv
  injection hv with hv1 _ hv3
  injection hv1 with hv1
  injection hv1 with hv1
  subst hv1 hv3
  refine ⟨cur, hh, h3, fun j x hj => ?_⟩
  have hjl : j < xs.length := (List.getElem?_eq_some_iff.1 hj).1
  obtain ⟨ad, hA, x0, x1⟩ := at_T44 hC (j : Int) (by omega) (by omega)
  injection hA with hA
  subst hA
  have hrd : rd_T44 xs (j : Int) = x := by unfold rd_T44; rw [Int.toNat_natCast, List.getD_eq_getElem?_getD, hj]; rfl
  rw [hrd, Int.toNat_natCast, add_plain] at x0 x1
  exact ⟨x0, x1⟩
theorem Hd.lastT_at {xs : List S44} (h : xs ≠ []) : ∃ x, xs[xs.length - 1]? = some x ∧ x.f0 = Hd.lastT xs := by
  refine ⟨xs.getLast h, ?_, ?_⟩
  · rw [← List.getLast?_eq_getElem?, List.getLast?_eq_some_getLast h]
  · unfold Hd.lastT; rw [List.getLast?_eq_some_getLast h]; rfl
set_option maxHeartbeats 8000000 in
set_option maxRecDepth 100000 in
/-- The time of a series' last sample. -/
theorem head_last.hit {base hb mb : Nat} {win : Int} {S : List Hd.Ent} {W : World} (h : Hd.HR base hb mb win S W) {e : Hd.Ent} (he : e ∈ S) {s : ByteArray} (hs : keyOf Try.prog 9 (.string s) = some (Hd.key e.ls)) :
    Calls Try.prog 84 #[.pointer (some ⟨hb, 0, none⟩), .string s] W fun e' w' => e' = .returned (.tuple #[.int .i64 (Hd.lastT e.xs), .bool true]) ∧ ∃ n, w' = W.drewN n := by
  have z1 := (blk_cell h.head 1).trans rfl
  have hlook := h.look_hit he hs
  have hen := h.ent e he
  have hne := Hd.ne_of h he
  obtain ⟨g, cap, esv, hbg, hlt, _⟩ := Kd.R_form hen.sam (List.length_pos_iff.2 hne)
  have hsam := hen.sam
  rw [esv] at hsam
  obtain ⟨_, hcap, _, cur, hcur, hsz, hcc⟩ := R44_cells hsam
  obtain ⟨x, hx, hxl⟩ := Hd.lastT_at hne
  obtain ⟨c0, _⟩ := hcc _ x hx
  have y1 : W.cell? ⟨e.g, 1, none⟩ = some (.slice (some ⟨g, 0, none⟩) e.xs.length cap) := by rw [← esv]; exact (blk_cell hen.blk 1).trans rfl
  obtain ⟨eg, heg⟩ : ∃ eg, eg = e.g := ⟨_, rfl⟩
  obtain ⟨n, hn⟩ : ∃ n, n = e.xs.length := ⟨_, rfl⟩
  have hn0 : 0 < n := by rw [hn]; exact List.length_pos_iff.2 hne
  have hnm : n ≤ 9223372036854775807 := by rw [hn]; exact (Kd.R_reads' hsam).2.2.2.1
  obtain ⟨j, hj⟩ : ∃ j, j = n - 1 := ⟨_, rfl⟩
  rw [← hn] at y1 c0
  rw [← heg] at y1 hlook
  rw [← hj] at c0
  rw [← hxl]
  obtain ⟨t, ht⟩ : ∃ t, t = x.f0 := ⟨_, rfl⟩
  rw [← ht] at c0 ⊢
  have hw1 : IntKind.i64.wrap ((n : Int) - 1) = (j : Int) := by rw [IntKind.wrap_i64]; omega
  have hj0 : (0 : Int) ≤ (j : Int) := by omega
  have hjn : (j : Int) < (n : Int) := by omega
  clear hen hne esv hbg hlt hsam hcap hcur hsz hcc hx hxl heg hn hj ht hn0 hnm h hs he
  go_enter Try.func84, Try.ntmps84
  go_wp2
  go_quiet (fail)
  go_wp2
  go_ret2
  exact ⟨rfl, _, rfl⟩
set_option maxHeartbeats 8000000 in
set_option maxRecDepth 100000 in
theorem head_last.miss {base hb mb : Nat} {win : Int} {S : List Hd.Ent} {W : World} (h : Hd.HR base hb mb win S W) {s : ByteArray} {kl : Lit} (hs : keyOf Try.prog 9 (.string s) = some kl) (hk : ∀ e ∈ S, kl ≠ Hd.key e.ls) :
    Calls Try.prog 84 #[.pointer (some ⟨hb, 0, none⟩), .string s] W fun e' w' => e' = .returned (.tuple #[.int .i64 0, .bool false]) ∧ ∃ n, w' = W.drewN n := by
  have z1 := (blk_cell h.head 1).trans rfl
  have hlook := h.look_miss hs hk
  clear h hs hk
  go_enter Try.func84, Try.ntmps84
  go_wp2
  go_ret2
  exact ⟨rfl, 0, rfl⟩
end Go.Proofs.Ytcgocdhffcnleaa.PHead
