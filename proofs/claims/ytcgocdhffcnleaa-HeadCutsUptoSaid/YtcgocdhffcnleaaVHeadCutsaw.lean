/- Parts of the proof of the law's row, put together: see the theorems' own lines. -/
import Derived.Test.YtcgocdhffcnleaaVHeadCutsau
import Derived.StringKeys
import Derived.Outline
import Derived.WalkLawsBesides
/- A part of the proofs about the head: see the theorems' own lines. -/
namespace Go.Proofs.Ytcgocdhffcnleaa.PHead
open Go Go.RowKit Go.Proofs.YtcgocdhffcnleaaW.PrintWords Go.Proofs.YtcgocdhffcnleaaW.PrintLast Go.Proofs.YtcgocdhffcnleaaW.PrintMore Go.Proofs.Ytcgocdhffcnleaa.XB Go.Proofs.Ytcgocdhffcnleaa.PHeadPlays Go.Proofs.Ytcgocdhffcnleaa.XH
set_option linter.unusedVariables false
set_option linter.unusedSimpArgs false
/-! ### looking a series up -/
namespace Hd
open Go.Maps
theorem law9 : Keyed Try.prog 9 := string_keyed Try.underlying9
theorem zero117 (W : World) : (zeroValue 117).run Try.prog W = .ok (.pointer none) W := by kernel_rfl
theorem txt_size {m : List S53} (h : Hl.made m) : (⟨(Hl.txtB m).toArray⟩ : ByteArray).size ≤ maxLen := by
  have h1 := Hl.cont_len h.2.1
  have h2 := Hl.cont_txt h.2.2.1
  have h3 := h.2.2.2
  have : (Hl.txtB m).length ≤ 16 * 261 + 1 := by rw [← h2, List.length_append, List.length_singleton]; omega
  show ((Hl.txtB m).toArray).size ≤ maxLen
  rw [List.size_toArray]
  unfold maxLen
  omega
theorem keyOf_txt {m : List S53} (h : Hl.made m) : keyOf Try.prog 9 (.string (Hl.txt m)) = some (key m) := by
  rw [Hl.txt_made h, WideMaps.keyOf_string_mk Try.underlying9 (txt_size h)]
  rfl
theorem keyOf_txt' (l : List S53) : ∃ kl, keyOf Try.prog 9 (.string (Hl.txt l)) = some kl ∧ ((∃ m, Hl.mk l = some m ∧ kl = key m) ∨ (Hl.mk l = none ∧ kl = .string [])) := by
  cases h : Hl.mk l with
  | none =>
    refine ⟨.string [], ?_, .inr ⟨rfl, rfl⟩⟩
    unfold Hl.txt
    rw [h, WideMaps.keyOf_string_mk Try.underlying9 (by show (#[] : Array UInt8).size ≤ maxLen; simp)]
  | some m =>
    refine ⟨key m, ?_, .inl ⟨m, rfl, rfl⟩⟩
    unfold Hl.txt
    rw [h, WideMaps.keyOf_string_mk Try.underlying9 (txt_size (Hl.mk_made h).1)]
    rfl
/-- A look-up of a series that is there. -/
theorem HR.look_hit {base hb mb : Nat} {win : Int} {S : List Ent} {W : World} (h : HR base hb mb win S W) {e : Ent} (he : e ∈ S) {s : ByteArray} (hs : keyOf Try.prog 9 (.string s) = some (key e.ls)) :
    (Instr.lookup 113 (.map (some mb)) (.string s) false).run Try.prog W = .ok (.pointer (some ⟨e.g, 0, none⟩)) W := by
  obtain ⟨D, hm, hD⟩ := h.map
  obtain ⟨v, ps, hrun, hv⟩ := hm.lookup law9 Try.underlying113 (zero117 W) RP_nil hs
  rw [(hD.hit e he).2] at hv
  rw [hrun, RP_at hv]
theorem HR.look_miss {base hb mb : Nat} {win : Int} {S : List Ent} {W : World} (h : HR base hb mb win S W) {s : ByteArray} {kl : Lit} (hs : keyOf Try.prog 9 (.string s) = some kl) (hk : ∀ e ∈ S, kl ≠ key e.ls) :
    (Instr.lookup 113 (.map (some mb)) (.string s) false).run Try.prog W = .ok (.pointer none) W := by
  obtain ⟨D, hm, hD⟩ := h.map
  obtain ⟨v, ps, hrun, hv⟩ := hm.lookup law9 Try.underlying113 (zero117 W) RP_nil hs
  have hn : Maps.has D kl = false := by
    cases hh : Maps.has D kl with
    | false => rfl
    | true =>
      obtain ⟨e, he, h2⟩ := hD.keys kl hh
      exact absurd h2 (hk e he)
  rw [Maps.atKey_of_not_has hn] at hv
  rw [hrun, RP_none hv]
theorem made_of {base hb mb : Nat} {win : Int} {S : List Ent} {W : World} (h : HR base hb mb win S W) {e : Ent} (he : e ∈ S) : Hl.made e.ls :=
  h.ok.made (e.ls, e.xs) (List.mem_map_of_mem he)
theorem ne_of {base hb mb : Nat} {win : Int} {S : List Ent} {W : World} (h : HR base hb mb win S W) {e : Ent} (he : e ∈ S) : e.xs ≠ [] :=
  h.ok.ne (e.ls, e.xs) (List.mem_map_of_mem he)
theorem find_ent {S : List Ent} {m : List S53} {xs : List S44} (h : find (abs S) m = some xs) : ∃ e ∈ S, e.ls = m ∧ e.xs = xs := by
  obtain ⟨e, he, h2⟩ := List.mem_map.1 (find_mem h)
  injection h2 with h2 h3
  exact ⟨e, he, h2, h3⟩
theorem find_ent_none {S : List Ent} {m : List S53} (h : find (abs S) m = none) : ∀ e ∈ S, e.ls ≠ m := fun e he => find_none.1 h (e.ls, e.xs) (List.mem_map_of_mem he)
theorem miss_keys {base hb mb : Nat} {win : Int} {S : List Ent} {W : World} (h : HR base hb mb win S W) {m : List S53} (hm : Hl.made m) (hf : find (abs S) m = none) : ∀ e ∈ S, key m ≠ key e.ls :=
  fun e he hk => find_ent_none hf e he (key_inj (made_of h he) hm hk.symm)
end Hd
theorem R44_cells {W : World} {base g n cap : Nat} {xs : List S44} (h : k44.R 44 W base (fun _ => True) (.slice (some ⟨g, 0, none⟩) n cap) xs) : n = xs.length ∧ n ≤ cap ∧ base ≤ g ∧ ∃ cur, W.heap[g]? = some (.cells cur 44 (0, 0)) ∧ cur.size = cap * 2 ∧ ∀ (j : Nat) (x : S44), xs[j]? = some x → W.cell? ⟨g, j * 2, none⟩ = some (.int .i64 x.f0) ∧ W.cell? ⟨g, j * 2 + 1, none⟩ = some (.int .i64 x.f1) := by
  obtain ⟨hn, hc, hC⟩ := Kd.R_reads' h
  obtain ⟨inner, ho⟩ := Kd.R_own h
  refine ⟨hn, hc, own_base ho g rfl, ?_⟩
  rcases ho.2 with ⟨hv, hz⟩ | ⟨g', cap', cur, hv, hb, hh, h1, h2, h3, h4⟩
  · cases hv
  injection hv with hv1 _ hv3
  injection hv1 with hv1
  injection hv1 with hv1
  subst hv1 hv3
  refine ⟨cur, hh, h3, fun j x hj => ?_⟩
  have hjl : j < xs.length := (List.getElem?_eq_some_iff.1 hj).1
  obtain ⟨ad, hA, x0, x1⟩ := at_T44 hC (j : Int) (by omega) (by omega)
  injection hA with hA
  subst hA
  have hrd : rd_T44 xs (j : Int) = x := by unfold rd_T44; rw [Int.toNat_natCast, List.getD_eq_getElem?_getD, hj]; rfl
  rw [hrd, Int.toNat_natCast, add_plain] at x0 x1
  exact ⟨x0, x1⟩
theorem Hd.lastT_at {xs : List S44} (h : xs ≠ []) : ∃ x, xs[xs.length - 1]? = some x ∧ x.f0 = Hd.lastT xs := by
  refine ⟨xs.getLast h, ?_, ?_⟩
  · rw [← List.getLast?_eq_getElem?, List.getLast?_eq_some_getLast h]
  · unfold Hd.lastT; rw [List.getLast?_eq_some_getLast h]; rfl
set_option maxHeartbeats 8000000 in
set_option maxRecDepth 100000 in
/-- The time of a series' last sample. -/
theorem head_last.hit {base hb mb : Nat} {win : Int} {S : List Hd.Ent} {W : World} (h : Hd.HR base hb mb win S W) {e : Hd.Ent} (he : e ∈ S) {s : ByteArray} (hs : keyOf Try.prog 9 (.string s) = some (Hd.key e.ls)) :
    Calls Try.prog 84 #[.pointer (some ⟨hb, 0, none⟩), .string s] W fun e' w' => e' = .returned (.tuple #[.int .i64 (Hd.lastT e.xs), .bool true]) ∧ ∃ n, w' = W.drewN n := by
  have z1 := (blk_cell h.head 1).trans rfl
  have hlook := h.look_hit he hs
  have hen := h.ent e he
  have hne := Hd.ne_of h he
  obtain ⟨g, cap, esv, hbg, hlt, _⟩ := Kd.R_form hen.sam (List.length_pos_iff.2 hne)
  have hsam := hen.sam
  rw [esv] at hsam
  obtain ⟨_, hcap, _, cur, hcur, hsz, hcc⟩ := R44_cells hsam
  obtain ⟨x, hx, hxl⟩ := Hd.lastT_at hne
  obtain ⟨c0, _⟩ := hcc _ x hx
  have y1 : W.cell? ⟨e.g, 1, none⟩ = some (.slice (some ⟨g, 0, none⟩) e.xs.length cap) := by rw [← esv]; exact (blk_cell hen.blk 1).trans rfl
  obtain ⟨eg, heg⟩ : ∃ eg, eg = e.g := ⟨_, rfl⟩
  obtain ⟨n, hn⟩ : ∃ n, n = e.xs.length := ⟨_, rfl⟩
  have hn0 : 0 < n := by rw [hn]; exact List.length_pos_iff.2 hne
  have hnm : n ≤ 9223372036854775807 := by rw [hn]; exact (Kd.R_reads' hsam).2.2.2.1
  obtain ⟨j, hj⟩ : ∃ j, j = n - 1 := ⟨_, rfl⟩
  rw [← hn] at y1 c0
  rw [← heg] at y1 hlook
  rw [← hj] at c0
  rw [← hxl]
  obtain ⟨t, ht⟩ : ∃ t, t = x.f0 := ⟨_, rfl⟩
  rw [← ht] at c0 ⊢
  have hw1 : IntKind.i64.wrap ((n : Int) - 1) = (j : Int) := by rw [IntKind.wrap_i64]; omega
  have hj0 : (0 : Int) ≤ (j : Int) := by omega
  have hjn : (j : Int) < (n : Int) := by omega
  clear hen hne esv hbg hlt hsam hcap hcur hsz hcc hx hxl heg hn hj ht hn0 hnm h hs he
  go_enter Try.func84, Try.ntmps84
  go_wp2
  go_quiet (fail)
  go_wp2
  go_ret2
  exact ⟨rfl, _, rfl⟩
set_option maxHeartbeats 8000000 in
set_option maxRecDepth 100000 in
theorem head_last.miss {base hb mb : Nat} {win : Int} {S : List Hd.Ent} {W : World} (h : Hd.HR base hb mb win S W) {s : ByteArray} {kl : Lit} (hs : keyOf Try.prog 9 (.string s) = some kl) (hk : ∀ e ∈ S, kl ≠ Hd.key e.ls) :
    Calls Try.prog 84 #[.pointer (some ⟨hb, 0, none⟩), .string s] W fun e' w' => e' = .returned (.tuple #[.int .i64 0, .bool false]) ∧ ∃ n, w' = W.drewN n := by
  have z1 := (blk_cell h.head 1).trans rfl
  have hlook := h.look_miss hs hk
  clear h hs hk
  go_enter Try.func84, Try.ntmps84
  go_wp2
  go_ret2
  exact ⟨rfl, 0, rfl⟩
end Go.Proofs.Ytcgocdhffcnleaa.PHead

/- A part of the proofs about the head: see the theorems' own lines. -/
namespace Go.Proofs.Ytcgocdhffcnleaa.PHead
open Go Go.RowKit Go.Proofs.YtcgocdhffcnleaaW.PrintWords Go.Proofs.YtcgocdhffcnleaaW.PrintLast Go.Proofs.YtcgocdhffcnleaaW.PrintMore Go.Proofs.Ytcgocdhffcnleaa.XB Go.Proofs.Ytcgocdhffcnleaa.PHeadPlays Go.Proofs.Ytcgocdhffcnleaa.XH
set_option linter.unusedVariables false
set_option linter.unusedSimpArgs false
/-! ### the asker -/
namespace Hd
open Go.Maps
def errV (c : Int) : Value := .iface 180 (.agg #[.int .i64 c])
structure NW (D : DataW Unit) (L0 L : A) : Prop where
  hit : ∀ m, Hl.made m → Maps.has D (key m) = true → ∃ xs, find L m = some xs ∧ ∀ z, D.atKey (key m) z = .lit (.int .i64 (lastT xs))
  miss : ∀ m, Hl.made m → Maps.has D (key m) = false → find L m = find L0 m
  tidy : Maps.Tidy D
theorem NW.step {D : DataW Unit} {L0 L : A} (h : NW D L0 L) {m : List S53} (hm : Hl.made m) (xs : List S44) : NW (D.put (key m) (.lit (.int .i64 (lastT xs)))) L0 (setA L m xs) := by
  refine ⟨fun k hk hh => ?_, fun k hk hh => ?_, h.tidy.put (key_isKey m) _⟩
  · by_cases e : k = m
    · subst e
      exact ⟨xs, find_setA_same, fun z => Maps.atKey_put_same h.tidy.isMap (key_isKey k) _ z⟩
    · have hne : key k ≠ key m := fun h2 => e (key_inj hk hm h2)
      rw [Maps.has_put_other hne] at hh
      obtain ⟨ys, h1, h2⟩ := h.hit k hk hh
      exact ⟨ys, by rw [find_setA_other e]; exact h1, fun z => by rw [Maps.atKey_put_other hne]; exact h2 z⟩
  · by_cases e : k = m
    · subst e
      rw [Maps.has_put_same h.tidy.isMap (key_isKey k)] at hh
      cases hh
    · have hne : key k ≠ key m := fun h2 => e (key_inj hk hm h2)
      rw [Maps.has_put_other hne] at hh
      rw [find_setA_other e]
      exact h.miss k hk hh
/-- The asker behind j rows. -/
structure AS (w0 : World) (hb ab nb : Nat) (low : Int) (L0 L : A) (j : Nat) (D : DataW Unit) (W : World) : Prop where
  lo : w0.heap.size ≤ ab ∧ w0.heap.size ≤ nb
  blk : W.heap[ab]? = some (.cells #[.pointer (some ⟨hb, 0, none⟩), .map (some nb), .int .i64 ((L.length : Int) - (L0.length : Int)), .int .i64 low] 184 (0, 0))
  map : W.ownsMap Try.prog 9 (plainElem Try.prog 3) nb j D
  nw : NW D L0 L
  ok : Ok L
  mono : L0.length ≤ L.length
  below : Below w0.heap.size w0 W
theorem AS.step {w0 : World} {hb ab nb j : Nat} {low : Int} {L0 L : A} {D : DataW Unit} {W W' : World} (h : AS w0 hb ab nb low L0 L j D W) (hbb : Below W.heap.size W W') : AS w0 hb ab nb low L0 L j D W' := by
  obtain ⟨es, clock, hm, r⟩ := h.map
  exact ⟨h.lo, blk_below h.blk hbb, ⟨es, clock, blk_below hm hbb, r⟩, h.nw, h.ok, h.mono, below_step h.below hbb⟩
theorem len_of {base hb mb : Nat} {win : Int} {S : List Ent} {W : World} (h : HR base hb mb win S W) (n : Nat) (ty : TypeId) : (Builtin.len_ #[113] ty #[.map (some mb)]).run Try.prog (W.drewN n) = .ok (.int .i64 (S.length : Nat)) (W.drewN n) := by
  obtain ⟨D, hm, hD⟩ := (h.below (pw_below_drewN (Below.refl _ _) n)).map
  have := hm.len Try.underlying113 ty
  rw [hD.size] at this
  exact this
end Hd
end Go.Proofs.Ytcgocdhffcnleaa.PHead

/- A part of the proofs about the head: see the theorems' own lines. -/
namespace Go.Proofs.Ytcgocdhffcnleaa.PHead
open Go Go.RowKit Go.Proofs.YtcgocdhffcnleaaW.PrintWords Go.Proofs.YtcgocdhffcnleaaW.PrintLast Go.Proofs.YtcgocdhffcnleaaW.PrintMore Go.Proofs.Ytcgocdhffcnleaa.XB Go.Proofs.Ytcgocdhffcnleaa.PHeadPlays Go.Proofs.Ytcgocdhffcnleaa.XH
set_option linter.unusedVariables false
set_option linter.unusedSimpArgs false
/-! ### asker.row -/
section
open Go.Maps
def head_row.Post (w0 : World) (hb ab nb : Nat) (win low : Int) (L0 L : Hd.A) (j : Nat) (r : S46) (e : Ending) (w' : World) : Prop :=
  Below w0.heap.size w0 w' ∧ match Hd.rowF win low L r with
    | .error c => e = .panicked [{ v := Hd.errV c, recovered := false }]
    | .ok L' => e = .returned (.tuple #[]) ∧ ∃ D', Hd.AS w0 hb ab nb low L0 L' (j + 1) D' w'
theorem head_row.bad {w0 w' : World} {hb ab nb j : Nat} {win low c : Int} {L0 L : Hd.A} {r : S46} (h : Below w0.heap.size w0 w') (hr : Hd.rowF win low L r = .error c) : head_row.Post w0 hb ab nb win low L0 L j r (.panicked [{ v := Hd.errV c, recovered := false }]) w' := by
  unfold head_row.Post
  rw [hr]
  exact ⟨h, rfl⟩
theorem head_row.good {w0 w' : World} {hb ab nb j : Nat} {win low : Int} {L0 L L' : Hd.A} {r : S46} {D' : DataW Unit} (hr : Hd.rowF win low L r = .ok L') (h : Hd.AS w0 hb ab nb low L0 L' (j + 1) D' w') : head_row.Post w0 hb ab nb win low L0 L j r (.returned (.tuple #[])) w' := by
  unfold head_row.Post
  rw [hr]
  exact ⟨h.below, rfl, D', h⟩
theorem head_row.look {nb n : Nat} {D : DataW Unit} {W : World} (h : W.ownsMap Try.prog 9 (plainElem Try.prog 3) nb n D) {s : ByteArray} {kl : Lit} (hk : keyOf Try.prog 9 (.string s) = some kl) :
    ∃ c : Int, (Instr.lookup 102 (.map (some nb)) (.string s) true).run Try.prog W = .ok (.tuple #[.int .i64 c, .bool (Maps.has D kl)]) W ∧ D.atKey kl (.lit (.int .i64 0)) = .lit (.int .i64 c) := by
  obtain ⟨v, ps, hrun, hv⟩ := h.look_ok Hd.law9 Try.underlying102 (show (zeroValue 3).run Try.prog W = .ok (.int .i64 0) W from by kernel_rfl) (plainElem_int Try.underlying3 (by decide)) hk
  obtain ⟨c, rfl, hc, _⟩ := plainElem_int_inv Try.underlying3 hv
  exact ⟨c, hrun, congrArg Prod.fst hc⟩
set_option maxHeartbeats 8000000 in
set_option maxRecDepth 100000 in
theorem head_row.label (w0 : World) (base hb mb ab nb : Nat) (win low : Int) (S : List Hd.Ent) (L : Hd.A) (j : Nat) (A : Option Addr) (c : Nat) (r : S46) (W : World)
    (hC : Kd.C k53 W A r.f0.length r.f0) (hc : r.f0.length ≤ c) (hH : Hd.HR base hb mb win S w0) (D : DataW Unit) (hS : Hd.AS w0 hb ab nb low (Hd.abs S) L j D W) (hm : Hl.mk r.f0 = none) :
    Calls Try.prog 125 #[.pointer (some ⟨ab, 0, none⟩), .agg #[.slice A r.f0.length c, .int .i64 r.f1.f0, .int .i64 r.f1.f1]] W fun e w' => head_row.Post w0 hb ab nb win low (Hd.abs S) L j r e w' := by
  have HR := Aside0.mk (show Hd.rowF win low L r = .error 20 from by unfold Hd.rowF; rw [hm])
  have HM := Aside0.mk hm
  have HMAKE := Aside0.mk (fun W' (hb : Below W.heap.size W W') => labels_Make.calls A c r.f0 W' (Kd.C_below hC hb) hc)
  have HAS := Aside0.mk hS
  have HH := Aside0.mk hH
  obtain ⟨n, hn⟩ : ∃ n, n = r.f0.length := ⟨_, rfl⟩
  obtain ⟨t, ht⟩ : ∃ t, t = r.f1.f0 := ⟨_, rfl⟩
  obtain ⟨v, hv⟩ : ∃ v, v = r.f1.f1 := ⟨_, rfl⟩
  rw [← hn] at HMAKE
  rw [← hn, ← ht, ← hv]
  clear hm hC hc hS hn hv ht hH
  go_enter Try.func125, Try.ntmps125
  go_upto_region 1 with fail
  refine cwp_world ?_
  intro W1 hW1
  obtain ⟨g, hg⟩ : ∃ g, g = W.heap.size := ⟨_, rfl⟩
  have HBK := Aside0.mk (show W1.heap[g]? = some (.cells #[.slice A n c, .int .i64 t, .int .i64 v] 46 (0, 0)) by rw [hW1, hg]; exact blk_new _ _)
  have z0 : W1.cell? ⟨g, 0, none⟩ = some (.slice A n c) := (blk_cell HBK.out 0).trans rfl
  have hb1 : Below W.heap.size W W1 := by rw [hW1]; exact below_alloc (Below.refl _ _) _
  have HMK := Aside0.mk (HMAKE.out W1 hb1)
  have HAS1 := Aside0.mk (HAS.out.step hb1)
  rw [← hg]
  clear hW1 hg hb1 HMAKE HAS
  go_wp2_with (go_at_call 101; (with_reducible refine HMK.out.mono ?_); rintro e W2 ⟨hb2, hp⟩; rw [HM.out] at hp; dsimp only at hp; subst hp; have HB2 := Aside0.mk (below_step HAS1.out.below hb2); clear hb2)
  have z_ := head_row.bad (hb := hb) (ab := ab) (nb := nb) (j := j) (L0 := Hd.abs S) HB2.out HR.out
  exact ⟨rfl, z_⟩
set_option maxHeartbeats 8000000 in
set_option maxRecDepth 100000 in
theorem head_row.timeA (w0 : World) (base hb mb ab nb : Nat) (win low : Int) (S : List Hd.Ent) (L : Hd.A) (j : Nat) (A : Option Addr) (c : Nat) (r : S46) (W : World)
    (hC : Kd.C k53 W A r.f0.length r.f0) (hc : r.f0.length ≤ c) (hH : Hd.HR base hb mb win S w0) (D : DataW Unit) (hS : Hd.AS w0 hb ab nb low (Hd.abs S) L j D W) (m : List S53) (hm : Hl.mk r.f0 = some m) (hb0 : r.f1.f0 < -9007199254740992) :
    Calls Try.prog 125 #[.pointer (some ⟨ab, 0, none⟩), .agg #[.slice A r.f0.length c, .int .i64 r.f1.f0, .int .i64 r.f1.f1]] W fun e w' => head_row.Post w0 hb ab nb win low (Hd.abs S) L j r e w' := by
  have HR := Aside0.mk (show Hd.rowF win low L r = .error 21 from by unfold Hd.rowF; rw [hm]; simp only; rw [if_pos (by unfold Hd.maxT; omega)])
  have HM := Aside0.mk hm
  have HMAKE := Aside0.mk (fun W' (hb : Below W.heap.size W W') => labels_Make.calls A c r.f0 W' (Kd.C_below hC hb) hc)
  have HAS := Aside0.mk hS
  have HH := Aside0.mk hH
  obtain ⟨n, hn⟩ : ∃ n, n = r.f0.length := ⟨_, rfl⟩
  obtain ⟨t, ht⟩ : ∃ t, t = r.f1.f0 := ⟨_, rfl⟩
  obtain ⟨v, hv⟩ : ∃ v, v = r.f1.f1 := ⟨_, rfl⟩
  rw [← hn] at HMAKE
  rw [← hn, ← ht, ← hv]
  rw [← ht] at hb0
  clear hm hC hc hS hn hv ht hH
  go_enter Try.func125, Try.ntmps125
  go_upto_region 1 with fail
  refine cwp_world ?_
  intro W1 hW1
  obtain ⟨g, hg⟩ : ∃ g, g = W.heap.size := ⟨_, rfl⟩
  have HBK := Aside0.mk (show W1.heap[g]? = some (.cells #[.slice A n c, .int .i64 t, .int .i64 v] 46 (0, 0)) by rw [hW1, hg]; exact blk_new _ _)
  have z0 : W1.cell? ⟨g, 0, none⟩ = some (.slice A n c) := (blk_cell HBK.out 0).trans rfl
  have hb1 : Below W.heap.size W W1 := by rw [hW1]; exact below_alloc (Below.refl _ _) _
  have HMK := Aside0.mk (HMAKE.out W1 hb1)
  have HAS1 := Aside0.mk (HAS.out.step hb1)
  rw [← hg]
  clear hW1 hg hb1 HMAKE HAS
  go_wp2_with (go_at_call 101; (with_reducible refine HMK.out.mono ?_); rintro e W2 ⟨hb2, hp⟩; rw [HM.out] at hp; dsimp only at hp; obtain ⟨mv, he, hr⟩ := hp; subst he; obtain ⟨Am, cm, ev⟩ := Kd.R_slice hr; subst ev; have HRM := Aside0.mk hr; have HAS2 := Aside0.mk (HAS1.out.step hb2); have z1 := pw_cell_below hb2 ((blk_cell HBK.out 1).trans (show (#[.slice A n c, .int .i64 t, .int .i64 v] : Array Value)[1]? = some (.int .i64 t) from rfl)); have a3 := (blk_cell HAS2.out.blk 3).trans (show (#[.pointer (some ⟨hb, 0, none⟩), .map (some nb), .int .i64 ((L.length : Int) - ((Hd.abs S).length : Int)), .int .i64 low] : Array Value)[3]? = some (.int .i64 low) from rfl); clear hb2 hr)
  have z_ := head_row.bad (hb := hb) (ab := ab) (nb := nb) (j := j) (L0 := Hd.abs S) HAS2.out.below HR.out
  exact ⟨rfl, z_⟩
set_option maxHeartbeats 8000000 in
set_option maxRecDepth 100000 in
theorem head_row.timeB (w0 : World) (base hb mb ab nb : Nat) (win low : Int) (S : List Hd.Ent) (L : Hd.A) (j : Nat) (A : Option Addr) (c : Nat) (r : S46) (W : World)
    (hC : Kd.C k53 W A r.f0.length r.f0) (hc : r.f0.length ≤ c) (hH : Hd.HR base hb mb win S w0) (D : DataW Unit) (hS : Hd.AS w0 hb ab nb low (Hd.abs S) L j D W) (m : List S53) (hm : Hl.mk r.f0 = some m) (hb0 : 9007199254740992 < r.f1.f0) :
    Calls Try.prog 125 #[.pointer (some ⟨ab, 0, none⟩), .agg #[.slice A r.f0.length c, .int .i64 r.f1.f0, .int .i64 r.f1.f1]] W fun e w' => head_row.Post w0 hb ab nb win low (Hd.abs S) L j r e w' := by
  have HR := Aside0.mk (show Hd.rowF win low L r = .error 21 from by unfold Hd.rowF; rw [hm]; simp only; rw [if_pos (by unfold Hd.maxT; omega)])
  have HM := Aside0.mk hm
  have HMAKE := Aside0.mk (fun W' (hb : Below W.heap.size W W') => labels_Make.calls A c r.f0 W' (Kd.C_below hC hb) hc)
  have HAS := Aside0.mk hS
  have HH := Aside0.mk hH
  obtain ⟨n, hn⟩ : ∃ n, n = r.f0.length := ⟨_, rfl⟩
  obtain ⟨t, ht⟩ : ∃ t, t = r.f1.f0 := ⟨_, rfl⟩
  obtain ⟨v, hv⟩ : ∃ v, v = r.f1.f1 := ⟨_, rfl⟩
  rw [← hn] at HMAKE
  rw [← hn, ← ht, ← hv]
  rw [← ht] at hb0
  clear hm hC hc hS hn hv ht hH
  go_enter Try.func125, Try.ntmps125
  go_upto_region 1 with fail
  refine cwp_world ?_
  intro W1 hW1
  obtain ⟨g, hg⟩ : ∃ g, g = W.heap.size := ⟨_, rfl⟩
  have HBK := Aside0.mk (show W1.heap[g]? = some (.cells #[.slice A n c, .int .i64 t, .int .i64 v] 46 (0, 0)) by rw [hW1, hg]; exact blk_new _ _)
  have z0 : W1.cell? ⟨g, 0, none⟩ = some (.slice A n c) := (blk_cell HBK.out 0).trans rfl
  have hb1 : Below W.heap.size W W1 := by rw [hW1]; exact below_alloc (Below.refl _ _) _
  have HMK := Aside0.mk (HMAKE.out W1 hb1)
  have HAS1 := Aside0.mk (HAS.out.step hb1)
  rw [← hg]
  clear hW1 hg hb1 HMAKE HAS
  have hx1 : ¬ t < -9007199254740992 := by omega
  have hx2 : t > 9007199254740992 := by omega
  go_wp2_with (go_at_call 101; (with_reducible refine HMK.out.mono ?_); rintro e W2 ⟨hb2, hp⟩; rw [HM.out] at hp; dsimp only at hp; obtain ⟨mv, he, hr⟩ := hp; subst he; obtain ⟨Am, cm, ev⟩ := Kd.R_slice hr; subst ev; have HRM := Aside0.mk hr; have HAS2 := Aside0.mk (HAS1.out.step hb2); have z1 := pw_cell_below hb2 ((blk_cell HBK.out 1).trans (show (#[.slice A n c, .int .i64 t, .int .i64 v] : Array Value)[1]? = some (.int .i64 t) from rfl)); have a3 := (blk_cell HAS2.out.blk 3).trans (show (#[.pointer (some ⟨hb, 0, none⟩), .map (some nb), .int .i64 ((L.length : Int) - ((Hd.abs S).length : Int)), .int .i64 low] : Array Value)[3]? = some (.int .i64 low) from rfl); clear hb2 hr)
  have z_ := head_row.bad (hb := hb) (ab := ab) (nb := nb) (j := j) (L0 := Hd.abs S) HAS2.out.below HR.out
  exact ⟨rfl, z_⟩
set_option maxHeartbeats 8000000 in
set_option maxRecDepth 100000 in
theorem head_row.low (w0 : World) (base hb mb ab nb : Nat) (win low : Int) (S : List Hd.Ent) (L : Hd.A) (j : Nat) (A : Option Addr) (c : Nat) (r : S46) (W : World)
    (hC : Kd.C k53 W A r.f0.length r.f0) (hc : r.f0.length ≤ c) (hH : Hd.HR base hb mb win S w0) (D : DataW Unit) (hS : Hd.AS w0 hb ab nb low (Hd.abs S) L j D W) (m : List S53) (hm : Hl.mk r.f0 = some m) (hb1 : -9007199254740992 ≤ r.f1.f0) (hb2 : r.f1.f0 ≤ 9007199254740992) (hb0 : r.f1.f0 < low) :
    Calls Try.prog 125 #[.pointer (some ⟨ab, 0, none⟩), .agg #[.slice A r.f0.length c, .int .i64 r.f1.f0, .int .i64 r.f1.f1]] W fun e w' => head_row.Post w0 hb ab nb win low (Hd.abs S) L j r e w' := by
  have HR := Aside0.mk (show Hd.rowF win low L r = .error 22 from by unfold Hd.rowF; rw [hm]; simp only; rw [if_neg (by unfold Hd.maxT; omega), if_pos hb0])
  have HM := Aside0.mk hm
  have HMAKE := Aside0.mk (fun W' (hb : Below W.heap.size W W') => labels_Make.calls A c r.f0 W' (Kd.C_below hC hb) hc)
  have HAS := Aside0.mk hS
  have HH := Aside0.mk hH
  obtain ⟨n, hn⟩ : ∃ n, n = r.f0.length := ⟨_, rfl⟩
  obtain ⟨t, ht⟩ : ∃ t, t = r.f1.f0 := ⟨_, rfl⟩
  obtain ⟨v, hv⟩ : ∃ v, v = r.f1.f1 := ⟨_, rfl⟩
  rw [← hn] at HMAKE
  rw [← hn, ← ht, ← hv]
  rw [← ht] at hb1 hb2 hb0
  clear hm hC hc hS hn hv ht hH
  go_enter Try.func125, Try.ntmps125
  go_upto_region 1 with fail
  refine cwp_world ?_
  intro W1 hW1
  obtain ⟨g, hg⟩ : ∃ g, g = W.heap.size := ⟨_, rfl⟩
  have HBK := Aside0.mk (show W1.heap[g]? = some (.cells #[.slice A n c, .int .i64 t, .int .i64 v] 46 (0, 0)) by rw [hW1, hg]; exact blk_new _ _)
  have z0 : W1.cell? ⟨g, 0, none⟩ = some (.slice A n c) := (blk_cell HBK.out 0).trans rfl
  have hbx : Below W.heap.size W W1 := by rw [hW1]; exact below_alloc (Below.refl _ _) _
  have HMK := Aside0.mk (HMAKE.out W1 hbx)
  have HAS1 := Aside0.mk (HAS.out.step hbx)
  rw [← hg]
  clear hW1 hg hbx HMAKE HAS
  have hx1 : ¬ t < -9007199254740992 := by omega
  have hx2 : ¬ t > 9007199254740992 := by omega
  clear hb1 hb2
  go_wp2_with (go_at_call 101; (with_reducible refine HMK.out.mono ?_); rintro e W2 ⟨hb2, hp⟩; rw [HM.out] at hp; dsimp only at hp; obtain ⟨mv, he, hr⟩ := hp; subst he; obtain ⟨Am, cm, ev⟩ := Kd.R_slice hr; subst ev; have HRM := Aside0.mk hr; have HAS2 := Aside0.mk (HAS1.out.step hb2); have z1 := pw_cell_below hb2 ((blk_cell HBK.out 1).trans (show (#[.slice A n c, .int .i64 t, .int .i64 v] : Array Value)[1]? = some (.int .i64 t) from rfl)); have a3 := (blk_cell HAS2.out.blk 3).trans (show (#[.pointer (some ⟨hb, 0, none⟩), .map (some nb), .int .i64 ((L.length : Int) - ((Hd.abs S).length : Int)), .int .i64 low] : Array Value)[3]? = some (.int .i64 low) from rfl); clear hb2 hr)
  have z_ := head_row.bad (hb := hb) (ab := ab) (nb := nb) (j := j) (L0 := Hd.abs S) HAS2.out.below HR.out
  exact ⟨rfl, z_⟩
set_option maxHeartbeats 8000000 in
set_option maxRecDepth 100000 in
theorem head_row.newest_bad (w0 : World) (base hb mb ab nb : Nat) (win low : Int) (S : List Hd.Ent) (L : Hd.A) (j : Nat) (A : Option Addr) (c : Nat) (r : S46) (W : World)
    (hC : Kd.C k53 W A r.f0.length r.f0) (hc : r.f0.length ≤ c) (hH : Hd.HR base hb mb win S w0) (D : DataW Unit) (hS : Hd.AS w0 hb ab nb low (Hd.abs S) L j D W) (m : List S53) (hm : Hl.mk r.f0 = some m) (hb1 : -9007199254740992 ≤ r.f1.f0) (hb2 : r.f1.f0 ≤ 9007199254740992) (hb0 : ¬ r.f1.f0 < low) (xs : List S44) (hf : Hd.find L m = some xs) (hh : Maps.has D (Hd.key m) = true) (hb5 : r.f1.f0 < Hd.lastT xs - win) :
    Calls Try.prog 125 #[.pointer (some ⟨ab, 0, none⟩), .agg #[.slice A r.f0.length c, .int .i64 r.f1.f0, .int .i64 r.f1.f1]] W fun e w' => head_row.Post w0 hb ab nb win low (Hd.abs S) L j r e w' := by
  have HR := Aside0.mk (show Hd.rowF win low L r = .error 22 from by unfold Hd.rowF; rw [hm]; simp only; rw [if_neg (by unfold Hd.maxT; omega), if_neg hb0, hf]; simp only; rw [if_pos hb5])
  have HM := Aside0.mk hm
  have HMAKE := Aside0.mk (fun W' (hb : Below W.heap.size W W') => labels_Make.calls A c r.f0 W' (Kd.C_below hC hb) hc)
  have HAS := Aside0.mk hS
  have HH := Aside0.mk hH
  obtain ⟨n, hn⟩ : ∃ n, n = r.f0.length := ⟨_, rfl⟩
  obtain ⟨t, ht⟩ : ∃ t, t = r.f1.f0 := ⟨_, rfl⟩
  obtain ⟨v, hv⟩ : ∃ v, v = r.f1.f1 := ⟨_, rfl⟩
  rw [← hn] at HMAKE
  rw [← hn, ← ht, ← hv]
  rw [← ht] at hb1 hb2 hb0 hb5
  have HT := Aside0.mk ht
  clear hm hC hc hS hn hv ht hH
  go_enter Try.func125, Try.ntmps125
  go_upto_region 1 with fail
  refine cwp_world ?_
  intro W1 hW1
  obtain ⟨g, hg⟩ : ∃ g, g = W.heap.size := ⟨_, rfl⟩
  have HBK := Aside0.mk (show W1.heap[g]? = some (.cells #[.slice A n c, .int .i64 t, .int .i64 v] 46 (0, 0)) by rw [hW1, hg]; exact blk_new _ _)
  have z0 : W1.cell? ⟨g, 0, none⟩ = some (.slice A n c) := (blk_cell HBK.out 0).trans rfl
  have hbx : Below W.heap.size W W1 := by rw [hW1]; exact below_alloc (Below.refl _ _) _
  have HMK := Aside0.mk (HMAKE.out W1 hbx)
  have HAS1 := Aside0.mk (HAS.out.step hbx)
  rw [← hg]
  clear hW1 hg hbx HMAKE HAS
  have hx1 : ¬ t < -9007199254740992 := by omega
  have hx2 : ¬ t > 9007199254740992 := by omega
  have HMD := Aside0.mk (Hl.mk_made HM.out).1
  go_upto_region 9 with (go_at_call 101; (with_reducible refine HMK.out.mono ?_); rintro e W2 ⟨hb2, hp⟩; rw [HM.out] at hp; dsimp only at hp; obtain ⟨mv, he, hr⟩ := hp; subst he; obtain ⟨Am, cm, ev⟩ := Kd.R_slice hr; subst ev; have HRM := Aside0.mk hr; have HAS2 := Aside0.mk (HAS1.out.step hb2); have z1 := pw_cell_below hb2 ((blk_cell HBK.out 1).trans (show (#[.slice A n c, .int .i64 t, .int .i64 v] : Array Value)[1]? = some (.int .i64 t) from rfl)); have a3 := (blk_cell HAS2.out.blk 3).trans (show (#[.pointer (some ⟨hb, 0, none⟩), .map (some nb), .int .i64 ((L.length : Int) - ((Hd.abs S).length : Int)), .int .i64 low] : Array Value)[3]? = some (.int .i64 low) from rfl); clear hb2 hr)
  have HTX := Aside0.mk (labels_Text.calls Am cm m W2 (Kd.R_reads' HRM.out).2.2 (Kd.R_reads' HRM.out).2.1)
  clear a3 HBK HMK HAS1
  go_upto_region 10 with (go_at_call 62; (with_reducible refine HTX.out.mono ?_); rintro e W3 ⟨rfl, hb3⟩; have HAS3 := Aside0.mk (HAS2.out.step hb3); clear hb3)
  have HKY := Aside0.mk (Hd.keyOf_txt HMD.out)
  obtain ⟨cc, hlook, hat⟩ := head_row.look HAS3.out.map HKY.out
  have HH3 := Aside0.mk (HH.out.below (Below.mono HAS3.out.below (Nat.le_refl _)))
  have a0 := (blk_cell HAS3.out.blk 0).trans (show (#[.pointer (some ⟨hb, 0, none⟩), .map (some nb), .int .i64 ((L.length : Int) - ((Hd.abs S).length : Int)), .int .i64 low] : Array Value)[0]? = some (.pointer (some ⟨hb, 0, none⟩)) from rfl)
  have a1 := (blk_cell HAS3.out.blk 1).trans (show (#[.pointer (some ⟨hb, 0, none⟩), .map (some nb), .int .i64 ((L.length : Int) - ((Hd.abs S).length : Int)), .int .i64 low] : Array Value)[1]? = some (.map (some nb)) from rfl)
  obtain ⟨lt, hlt⟩ : ∃ lt, lt = Hd.lastT xs := ⟨_, rfl⟩
  have hbd : -9007199254740992 ≤ lt ∧ lt ≤ 9007199254740992 := by
    rw [hlt]
    have hme := Hd.find_mem hf
    obtain ⟨x, hx, hxe⟩ := Hd.lastT_mem (HAS3.out.ok.ne _ hme)
    have := HAS3.out.ok.times _ hme x hx
    unfold Hd.maxT at this
    rw [← show x.f0 = Hd.lastT xs from hxe]
    exact this
  obtain ⟨hbd1, hbd2⟩ := hbd
  obtain ⟨hwn1, hwn2⟩ := HH3.out.wok
  have b0 := (blk_cell HH3.out.head 0).trans (show (#[.int .i64 win, .map (some mb), .int .i64 (Hd.cnt (Hd.abs S) : Nat)] : Array Value)[0]? = some (.int .i64 win) from rfl)
  obtain ⟨xs', hf', hat'⟩ := HAS3.out.nw.hit m HMD.out hh
  rw [hf] at hf'
  obtain rfl := Option.some.inj hf'
  rw [hat'] at hat
  obtain rfl : lt = cc := by
    rw [hlt]
    injection hat with hat
    injection hat
  rw [hh] at hlook
  clear hat' hat hf'
  have hold : t < lt - win := by rw [hlt]; omega
  unfold Hd.maxT at hwn2
  have HB3 := Aside0.mk HAS3.out.below
  clear hlt hf hb5 hh hb0 hb1 hb2
  go_wp2_with fail
  have z_ := head_row.bad (hb := hb) (ab := ab) (nb := nb) (j := j) (L0 := Hd.abs S) HB3.out HR.out
  exact ⟨rfl, z_⟩
set_option maxHeartbeats 8000000 in
set_option maxRecDepth 100000 in
theorem head_row.newest_ok (w0 : World) (base hb mb ab nb : Nat) (win low : Int) (S : List Hd.Ent) (L : Hd.A) (j : Nat) (A : Option Addr) (c : Nat) (r : S46) (W : World)
    (hC : Kd.C k53 W A r.f0.length r.f0) (hc : r.f0.length ≤ c) (hH : Hd.HR base hb mb win S w0) (D : DataW Unit) (hS : Hd.AS w0 hb ab nb low (Hd.abs S) L j D W) (m : List S53) (hm : Hl.mk r.f0 = some m) (hb1 : -9007199254740992 ≤ r.f1.f0) (hb2 : r.f1.f0 ≤ 9007199254740992) (hb0 : ¬ r.f1.f0 < low) (xs : List S44) (hf : Hd.find L m = some xs) (hh : Maps.has D (Hd.key m) = true) (hb5 : ¬ r.f1.f0 < Hd.lastT xs - win) (hj : j ≤ 1000) :
    Calls Try.prog 125 #[.pointer (some ⟨ab, 0, none⟩), .agg #[.slice A r.f0.length c, .int .i64 r.f1.f0, .int .i64 r.f1.f1]] W fun e w' => head_row.Post w0 hb ab nb win low (Hd.abs S) L j r e w' := by
  have HR := Aside0.mk (show Hd.rowF win low L r = .ok (Hd.putL L m r.f1) from by unfold Hd.rowF; rw [hm]; simp only; rw [if_neg (by unfold Hd.maxT; omega), if_neg hb0, hf]; simp only; rw [if_neg hb5])
  have HJ := Aside0.mk hj
  clear hj
  have HM := Aside0.mk hm
  have HMAKE := Aside0.mk (fun W' (hb : Below W.heap.size W W') => labels_Make.calls A c r.f0 W' (Kd.C_below hC hb) hc)
  have HAS := Aside0.mk hS
  have HH := Aside0.mk hH
  obtain ⟨n, hn⟩ : ∃ n, n = r.f0.length := ⟨_, rfl⟩
  obtain ⟨t, ht⟩ : ∃ t, t = r.f1.f0 := ⟨_, rfl⟩
  obtain ⟨v, hv⟩ : ∃ v, v = r.f1.f1 := ⟨_, rfl⟩
  rw [← hn] at HMAKE
  rw [← hn, ← ht, ← hv]
  rw [← ht] at hb1 hb2 hb0 hb5
  have HT := Aside0.mk ht
  clear hm hC hc hS hn hv ht hH
  go_enter Try.func125, Try.ntmps125
  go_upto_region 1 with fail
  refine cwp_world ?_
  intro W1 hW1
  obtain ⟨g, hg⟩ : ∃ g, g = W.heap.size := ⟨_, rfl⟩
  have HBK := Aside0.mk (show W1.heap[g]? = some (.cells #[.slice A n c, .int .i64 t, .int .i64 v] 46 (0, 0)) by rw [hW1, hg]; exact blk_new _ _)
  have z0 : W1.cell? ⟨g, 0, none⟩ = some (.slice A n c) := (blk_cell HBK.out 0).trans rfl
  have hbx : Below W.heap.size W W1 := by rw [hW1]; exact below_alloc (Below.refl _ _) _
  have HMK := Aside0.mk (HMAKE.out W1 hbx)
  have HAS1 := Aside0.mk (HAS.out.step hbx)
  rw [← hg]
  clear hW1 hg hbx HMAKE HAS
  have hx1 : ¬ t < -9007199254740992 := by omega
  have hx2 : ¬ t > 9007199254740992 := by omega
  have HMD := Aside0.mk (Hl.mk_made HM.out).1
  go_upto_region 9 with (go_at_call 101; (with_reducible refine HMK.out.mono ?_); rintro e W2 ⟨hb2, hp⟩; rw [HM.out] at hp; dsimp only at hp; obtain ⟨mv, he, hr⟩ := hp; subst he; obtain ⟨Am, cm, ev⟩ := Kd.R_slice hr; subst ev; have HRM := Aside0.mk hr; have HAS2 := Aside0.mk (HAS1.out.step hb2); have z1 := pw_cell_below hb2 ((blk_cell HBK.out 1).trans (show (#[.slice A n c, .int .i64 t, .int .i64 v] : Array Value)[1]? = some (.int .i64 t) from rfl)); have a3 := (blk_cell HAS2.out.blk 3).trans (show (#[.pointer (some ⟨hb, 0, none⟩), .map (some nb), .int .i64 ((L.length : Int) - ((Hd.abs S).length : Int)), .int .i64 low] : Array Value)[3]? = some (.int .i64 low) from rfl); clear hb2 hr)
  have HTX := Aside0.mk (labels_Text.calls Am cm m W2 (Kd.R_reads' HRM.out).2.2 (Kd.R_reads' HRM.out).2.1)
  clear a3 HBK HMK HAS1
  go_upto_region 10 with (go_at_call 62; (with_reducible refine HTX.out.mono ?_); rintro e W3 ⟨rfl, hb3⟩; have HAS3 := Aside0.mk (HAS2.out.step hb3); clear hb3)
  have HKY := Aside0.mk (Hd.keyOf_txt HMD.out)
  obtain ⟨cc, hlook, hat⟩ := head_row.look HAS3.out.map HKY.out
  have HH3 := Aside0.mk (HH.out.below (Below.mono HAS3.out.below (Nat.le_refl _)))
  have a0 := (blk_cell HAS3.out.blk 0).trans (show (#[.pointer (some ⟨hb, 0, none⟩), .map (some nb), .int .i64 ((L.length : Int) - ((Hd.abs S).length : Int)), .int .i64 low] : Array Value)[0]? = some (.pointer (some ⟨hb, 0, none⟩)) from rfl)
  have a1 := (blk_cell HAS3.out.blk 1).trans (show (#[.pointer (some ⟨hb, 0, none⟩), .map (some nb), .int .i64 ((L.length : Int) - ((Hd.abs S).length : Int)), .int .i64 low] : Array Value)[1]? = some (.map (some nb)) from rfl)
  obtain ⟨lt, hlt⟩ : ∃ lt, lt = Hd.lastT xs := ⟨_, rfl⟩
  have hbd : -9007199254740992 ≤ lt ∧ lt ≤ 9007199254740992 := by
    rw [hlt]
    have hme := Hd.find_mem hf
    obtain ⟨x, hx, hxe⟩ := Hd.lastT_mem (HAS3.out.ok.ne _ hme)
    have := HAS3.out.ok.times _ hme x hx
    unfold Hd.maxT at this
    rw [← show x.f0 = Hd.lastT xs from hxe]
    exact this
  obtain ⟨hbd1, hbd2⟩ := hbd
  obtain ⟨hwn1, hwn2⟩ := HH3.out.wok
  have b0 := (blk_cell HH3.out.head 0).trans (show (#[.int .i64 win, .map (some mb), .int .i64 (Hd.cnt (Hd.abs S) : Nat)] : Array Value)[0]? = some (.int .i64 win) from rfl)
  obtain ⟨xs', hf', hat'⟩ := HAS3.out.nw.hit m HMD.out hh
  rw [hf] at hf'
  obtain rfl := Option.some.inj hf'
  rw [hat'] at hat
  obtain rfl : lt = cc := by
    rw [hlt]
    injection hat with hat
    injection hat
  rw [hh] at hlook
  clear hat' hat hf'
  have hold : ¬ t < lt - win := by rw [hlt]; omega
  unfold Hd.maxT at hwn2
  have HLT := Aside0.mk hlt
  have HF := Aside0.mk hf
  have hmx : (Lit.int .i64 (max lt t)).wf = true := WalkArith.wf_i64 (by omega)
  have HTV := Aside0.mk (show (max lt t) = Hd.lastT (Hd.putS xs r.f1) by
    rw [Hd.lastT_putS (HAS3.out.ok.rise _ (Hd.find_mem hf)), if_neg (HAS3.out.ok.ne _ (Hd.find_mem hf)), hlt, HT.out])
  clear hlt hf hb5 hh hb0
  go_upto_region 15 with fail
  go_quiet (fail)
  go_upto_region 20 with fail
  go_wp2_with (at_mapUpdate; refine wpList_mapUpdate_own _ rfl _ _ _ 102 rfl 9 3 Hd.law9 Try.underlying102 _ nb j D rfl (HAS3.out.step (pw_below_drewN (Below.refl _ _) _)).map (by have := HJ.out; unfold maxLen; omega) _ _ _ rfl rfl HKY.out _ [] (plainElem_int Try.underlying3 hmx) ?_; intro W5 hown5 hg5; have HOW5 := Aside0.mk hown5; have HG5 := Aside0.mk hg5; clear hown5 hg5)
  go_end0
  have hset : Hd.putL L m r.f1 = Hd.setA L m (Hd.putS xs r.f1) := by unfold Hd.putL; rw [HF.out]; rfl
  have hl5 : (Hd.putL L m r.f1).length = L.length := by rw [hset, Hd.setA_len HAS3.out.ok.sorted, HF.out, if_neg (by simp)]
  refine head_row.good (D' := D.put (Hd.key m) (.lit (.int .i64 (max lt t)))) HR.out ⟨HAS3.out.lo, ?_, HOW5.out, ?_, (Hd.rowF_ok HAS3.out.ok HR.out).1, by rw [hl5]; exact HAS3.out.mono, ?_⟩
  · rw [hl5]
    exact blk_grown (blk_drewN HAS3.out.blk _) HG5.out (fun h => by
      have h1 : ab = nb := Option.some.inj h
      have h2 := HAS3.out.blk
      obtain ⟨es, ck, h3, _⟩ := HAS3.out.map
      rw [h1, h3] at h2
      cases h2)
  · rw [hset, HTV.out]
    exact HAS3.out.nw.step HMD.out _
  · exact (pw_below_drewN HAS3.out.below _).grown HG5.out (by have := HAS3.out.below.size; exact this) (fun k hk => by cases hk; exact HAS3.out.lo.2)
set_option maxHeartbeats 8000000 in
set_option maxRecDepth 100000 in
theorem head_row.head_bad (w0 : World) (base hb mb ab nb : Nat) (win low : Int) (S : List Hd.Ent) (L : Hd.A) (j : Nat) (A : Option Addr) (c : Nat) (r : S46) (W : World)
    (hC : Kd.C k53 W A r.f0.length r.f0) (hc : r.f0.length ≤ c) (hH : Hd.HR base hb mb win S w0) (D : DataW Unit) (hS : Hd.AS w0 hb ab nb low (Hd.abs S) L j D W) (m : List S53) (hm : Hl.mk r.f0 = some m) (hb1 : -9007199254740992 ≤ r.f1.f0) (hb2 : r.f1.f0 ≤ 9007199254740992) (hb0 : ¬ r.f1.f0 < low) (xs : List S44) (hf : Hd.find L m = some xs) (hh : Maps.has D (Hd.key m) = false) (hb5 : r.f1.f0 < Hd.lastT xs - win) :
    Calls Try.prog 125 #[.pointer (some ⟨ab, 0, none⟩), .agg #[.slice A r.f0.length c, .int .i64 r.f1.f0, .int .i64 r.f1.f1]] W fun e w' => head_row.Post w0 hb ab nb win low (Hd.abs S) L j r e w' := by
  have HR := Aside0.mk (show Hd.rowF win low L r = .error 22 from by unfold Hd.rowF; rw [hm]; simp only; rw [if_neg (by unfold Hd.maxT; omega), if_neg hb0, hf]; simp only; rw [if_pos hb5])
  have HM := Aside0.mk hm
  have HMAKE := Aside0.mk (fun W' (hb : Below W.heap.size W W') => labels_Make.calls A c r.f0 W' (Kd.C_below hC hb) hc)
  have HAS := Aside0.mk hS
  have HH := Aside0.mk hH
  obtain ⟨n, hn⟩ : ∃ n, n = r.f0.length := ⟨_, rfl⟩
  obtain ⟨t, ht⟩ : ∃ t, t = r.f1.f0 := ⟨_, rfl⟩
  obtain ⟨v, hv⟩ : ∃ v, v = r.f1.f1 := ⟨_, rfl⟩
  rw [← hn] at HMAKE
  rw [← hn, ← ht, ← hv]
  rw [← ht] at hb1 hb2 hb0 hb5
  have HT := Aside0.mk ht
  clear hm hC hc hS hn hv ht hH
  go_enter Try.func125, Try.ntmps125
  go_upto_region 1 with fail
  refine cwp_world ?_
  intro W1 hW1
  obtain ⟨g, hg⟩ : ∃ g, g = W.heap.size := ⟨_, rfl⟩
  have HBK := Aside0.mk (show W1.heap[g]? = some (.cells #[.slice A n c, .int .i64 t, .int .i64 v] 46 (0, 0)) by rw [hW1, hg]; exact blk_new _ _)
  have z0 : W1.cell? ⟨g, 0, none⟩ = some (.slice A n c) := (blk_cell HBK.out 0).trans rfl
  have hbx : Below W.heap.size W W1 := by rw [hW1]; exact below_alloc (Below.refl _ _) _
  have HMK := Aside0.mk (HMAKE.out W1 hbx)
  have HAS1 := Aside0.mk (HAS.out.step hbx)
  rw [← hg]
  clear hW1 hg hbx HMAKE HAS
  have hx1 : ¬ t < -9007199254740992 := by omega
  have hx2 : ¬ t > 9007199254740992 := by omega
  have HMD := Aside0.mk (Hl.mk_made HM.out).1
  go_upto_region 9 with (go_at_call 101; (with_reducible refine HMK.out.mono ?_); rintro e W2 ⟨hb2, hp⟩; rw [HM.out] at hp; dsimp only at hp; obtain ⟨mv, he, hr⟩ := hp; subst he; obtain ⟨Am, cm, ev⟩ := Kd.R_slice hr; subst ev; have HRM := Aside0.mk hr; have HAS2 := Aside0.mk (HAS1.out.step hb2); have z1 := pw_cell_below hb2 ((blk_cell HBK.out 1).trans (show (#[.slice A n c, .int .i64 t, .int .i64 v] : Array Value)[1]? = some (.int .i64 t) from rfl)); have a3 := (blk_cell HAS2.out.blk 3).trans (show (#[.pointer (some ⟨hb, 0, none⟩), .map (some nb), .int .i64 ((L.length : Int) - ((Hd.abs S).length : Int)), .int .i64 low] : Array Value)[3]? = some (.int .i64 low) from rfl); clear hb2 hr)
  have HTX := Aside0.mk (labels_Text.calls Am cm m W2 (Kd.R_reads' HRM.out).2.2 (Kd.R_reads' HRM.out).2.1)
  clear a3 HBK HMK HAS1
  go_upto_region 10 with (go_at_call 62; (with_reducible refine HTX.out.mono ?_); rintro e W3 ⟨rfl, hb3⟩; have HAS3 := Aside0.mk (HAS2.out.step hb3); clear hb3)
  have HKY := Aside0.mk (Hd.keyOf_txt HMD.out)
  obtain ⟨cc, hlook, hat⟩ := head_row.look HAS3.out.map HKY.out
  have HH3 := Aside0.mk (HH.out.below (Below.mono HAS3.out.below (Nat.le_refl _)))
  have a0 := (blk_cell HAS3.out.blk 0).trans (show (#[.pointer (some ⟨hb, 0, none⟩), .map (some nb), .int .i64 ((L.length : Int) - ((Hd.abs S).length : Int)), .int .i64 low] : Array Value)[0]? = some (.pointer (some ⟨hb, 0, none⟩)) from rfl)
  have a1 := (blk_cell HAS3.out.blk 1).trans (show (#[.pointer (some ⟨hb, 0, none⟩), .map (some nb), .int .i64 ((L.length : Int) - ((Hd.abs S).length : Int)), .int .i64 low] : Array Value)[1]? = some (.map (some nb)) from rfl)
  obtain ⟨lt, hlt⟩ : ∃ lt, lt = Hd.lastT xs := ⟨_, rfl⟩
  have hbd : -9007199254740992 ≤ lt ∧ lt ≤ 9007199254740992 := by
    rw [hlt]
    have hme := Hd.find_mem hf
    obtain ⟨x, hx, hxe⟩ := Hd.lastT_mem (HAS3.out.ok.ne _ hme)
    have := HAS3.out.ok.times _ hme x hx
    unfold Hd.maxT at this
    rw [← show x.f0 = Hd.lastT xs from hxe]
    exact this
  obtain ⟨hbd1, hbd2⟩ := hbd
  obtain ⟨hwn1, hwn2⟩ := HH3.out.wok
  have b0 := (blk_cell HH3.out.head 0).trans (show (#[.int .i64 win, .map (some mb), .int .i64 (Hd.cnt (Hd.abs S) : Nat)] : Array Value)[0]? = some (.int .i64 win) from rfl)
  obtain ⟨e, he, hel, hex⟩ := Hd.find_ent (S := S) (m := m) (xs := xs) (by rw [← HAS3.out.nw.miss m HMD.out hh]; exact hf)
  have HLAST := Aside0.mk (head_last.hit HH3.out he (s := Hl.txt m) (by rw [hel]; exact HKY.out))
  rw [hex, ← hlt] at HLAST
  rw [hh] at hlook
  clear he hel hex hat e
  have hold : t < lt - win := by rw [hlt]; omega
  unfold Hd.maxT at hwn2
  have HB3 := Aside0.mk HAS3.out.below
  clear hlt hf hb5 hh hb0 hb1 hb2
  go_wp2_with (go_at_call 84; (with_reducible refine HLAST.out.mono ?_); rintro e_ w_ ⟨rfl, nq, rfl⟩)
  have z_ := head_row.bad (hb := hb) (ab := ab) (nb := nb) (j := j) (L0 := Hd.abs S) (pw_below_drewN HB3.out nq) HR.out
  exact ⟨rfl, z_⟩
set_option maxHeartbeats 8000000 in
set_option maxRecDepth 100000 in
theorem head_row.head_ok (w0 : World) (base hb mb ab nb : Nat) (win low : Int) (S : List Hd.Ent) (L : Hd.A) (j : Nat) (A : Option Addr) (c : Nat) (r : S46) (W : World)
    (hC : Kd.C k53 W A r.f0.length r.f0) (hc : r.f0.length ≤ c) (hH : Hd.HR base hb mb win S w0) (D : DataW Unit) (hS : Hd.AS w0 hb ab nb low (Hd.abs S) L j D W) (m : List S53) (hm : Hl.mk r.f0 = some m) (hb1 : -9007199254740992 ≤ r.f1.f0) (hb2 : r.f1.f0 ≤ 9007199254740992) (hb0 : ¬ r.f1.f0 < low) (xs : List S44) (hf : Hd.find L m = some xs) (hh : Maps.has D (Hd.key m) = false) (hb5 : ¬ r.f1.f0 < Hd.lastT xs - win) (hj : j ≤ 1000) :
    Calls Try.prog 125 #[.pointer (some ⟨ab, 0, none⟩), .agg #[.slice A r.f0.length c, .int .i64 r.f1.f0, .int .i64 r.f1.f1]] W fun e w' => head_row.Post w0 hb ab nb win low (Hd.abs S) L j r e w' := by
  have HR := Aside0.mk (show Hd.rowF win low L r = .ok (Hd.putL L m r.f1) from by unfold Hd.rowF; rw [hm]; simp only; rw [if_neg (by unfold Hd.maxT; omega), if_neg hb0, hf]; simp only; rw [if_neg hb5])
  have HJ := Aside0.mk hj
  clear hj
  have HM := Aside0.mk hm
  have HMAKE := Aside0.mk (fun W' (hb : Below W.heap.size W W') => labels_Make.calls A c r.f0 W' (Kd.C_below hC hb) hc)
  have HAS := Aside0.mk hS
  have HH := Aside0.mk hH
  obtain ⟨n, hn⟩ : ∃ n, n = r.f0.length := ⟨_, rfl⟩
  obtain ⟨t, ht⟩ : ∃ t, t = r.f1.f0 := ⟨_, rfl⟩
  obtain ⟨v, hv⟩ : ∃ v, v = r.f1.f1 := ⟨_, rfl⟩
  rw [← hn] at HMAKE
  rw [← hn, ← ht, ← hv]
  rw [← ht] at hb1 hb2 hb0 hb5
  have HT := Aside0.mk ht
  clear hm hC hc hS hn hv ht hH
  go_enter Try.func125, Try.ntmps125
  go_upto_region 1 with fail
  refine cwp_world ?_
  intro W1 hW1
  obtain ⟨g, hg⟩ : ∃ g, g = W.heap.size := ⟨_, rfl⟩
  have HBK := Aside0.mk (show W1.heap[g]? = some (.cells #[.slice A n c, .int .i64 t, .int .i64 v] 46 (0, 0)) by rw [hW1, hg]; exact blk_new _ _)
  have z0 : W1.cell? ⟨g, 0, none⟩ = some (.slice A n c) := (blk_cell HBK.out 0).trans rfl
  have hbx : Below W.heap.size W W1 := by rw [hW1]; exact below_alloc (Below.refl _ _) _
  have HMK := Aside0.mk (HMAKE.out W1 hbx)
  have HAS1 := Aside0.mk (HAS.out.step hbx)
  rw [← hg]
  clear hW1 hg hbx HMAKE HAS
  have hx1 : ¬ t < -9007199254740992 := by omega
  have hx2 : ¬ t > 9007199254740992 := by omega
  have HMD := Aside0.mk (Hl.mk_made HM.out).1
  go_upto_region 9 with (go_at_call 101; (with_reducible refine HMK.out.mono ?_); rintro e W2 ⟨hb2, hp⟩; rw [HM.out] at hp; dsimp only at hp; obtain ⟨mv, he, hr⟩ := hp; subst he; obtain ⟨Am, cm, ev⟩ := Kd.R_slice hr; subst ev; have HRM := Aside0.mk hr; have HAS2 := Aside0.mk (HAS1.out.step hb2); have z1 := pw_cell_below hb2 ((blk_cell HBK.out 1).trans (show (#[.slice A n c, .int .i64 t, .int .i64 v] : Array Value)[1]? = some (.int .i64 t) from rfl)); have a3 := (blk_cell HAS2.out.blk 3).trans (show (#[.pointer (some ⟨hb, 0, none⟩), .map (some nb), .int .i64 ((L.length : Int) - ((Hd.abs S).length : Int)), .int .i64 low] : Array Value)[3]? = some (.int .i64 low) from rfl); clear hb2 hr)
  have HTX := Aside0.mk (labels_Text.calls Am cm m W2 (Kd.R_reads' HRM.out).2.2 (Kd.R_reads' HRM.out).2.1)
  clear a3 HBK HMK HAS1
  go_upto_region 10 with (go_at_call 62; (with_reducible refine HTX.out.mono ?_); rintro e W3 ⟨rfl, hb3⟩; have HAS3 := Aside0.mk (HAS2.out.step hb3); clear hb3)
  have HKY := Aside0.mk (Hd.keyOf_txt HMD.out)
  obtain ⟨cc, hlook, hat⟩ := head_row.look HAS3.out.map HKY.out
  have HH3 := Aside0.mk (HH.out.below (Below.mono HAS3.out.below (Nat.le_refl _)))
  have a0 := (blk_cell HAS3.out.blk 0).trans (show (#[.pointer (some ⟨hb, 0, none⟩), .map (some nb), .int .i64 ((L.length : Int) - ((Hd.abs S).length : Int)), .int .i64 low] : Array Value)[0]? = some (.pointer (some ⟨hb, 0, none⟩)) from rfl)
  have a1 := (blk_cell HAS3.out.blk 1).trans (show (#[.pointer (some ⟨hb, 0, none⟩), .map (some nb), .int .i64 ((L.length : Int) - ((Hd.abs S).length : Int)), .int .i64 low] : Array Value)[1]? = some (.map (some nb)) from rfl)
  obtain ⟨lt, hlt⟩ : ∃ lt, lt = Hd.lastT xs := ⟨_, rfl⟩
  have hbd : -9007199254740992 ≤ lt ∧ lt ≤ 9007199254740992 := by
    rw [hlt]
    have hme := Hd.find_mem hf
    obtain ⟨x, hx, hxe⟩ := Hd.lastT_mem (HAS3.out.ok.ne _ hme)
    have := HAS3.out.ok.times _ hme x hx
    unfold Hd.maxT at this
    rw [← show x.f0 = Hd.lastT xs from hxe]
    exact this
  obtain ⟨hbd1, hbd2⟩ := hbd
  obtain ⟨hwn1, hwn2⟩ := HH3.out.wok
  have b0 := (blk_cell HH3.out.head 0).trans (show (#[.int .i64 win, .map (some mb), .int .i64 (Hd.cnt (Hd.abs S) : Nat)] : Array Value)[0]? = some (.int .i64 win) from rfl)
  obtain ⟨e, he, hel, hex⟩ := Hd.find_ent (S := S) (m := m) (xs := xs) (by rw [← HAS3.out.nw.miss m HMD.out hh]; exact hf)
  have HLAST := Aside0.mk (head_last.hit HH3.out he (s := Hl.txt m) (by rw [hel]; exact HKY.out))
  rw [hex, ← hlt] at HLAST
  rw [hh] at hlook
  clear he hel hex hat e
  have hold : ¬ t < lt - win := by rw [hlt]; omega
  unfold Hd.maxT at hwn2
  have HLT := Aside0.mk hlt
  have HF := Aside0.mk hf
  have hmx : (Lit.int .i64 (max lt t)).wf = true := WalkArith.wf_i64 (by omega)
  have HTV := Aside0.mk (show (max lt t) = Hd.lastT (Hd.putS xs r.f1) by
    rw [Hd.lastT_putS (HAS3.out.ok.rise _ (Hd.find_mem hf)), if_neg (HAS3.out.ok.ne _ (Hd.find_mem hf)), hlt, HT.out])
  clear hlt hf hb5 hh hb0
  go_upto_region 15 with (go_at_call 84; (with_reducible refine HLAST.out.mono ?_); rintro e_ w_ ⟨rfl, nq, rfl⟩)
  go_quiet (fail)
  go_upto_region 20 with fail
  go_wp2_with (at_mapUpdate; refine wpList_mapUpdate_own _ rfl _ _ _ 102 rfl 9 3 Hd.law9 Try.underlying102 _ nb j D rfl (HAS3.out.step (pw_below_drewN (Below.refl _ _) _)).map (by have := HJ.out; unfold maxLen; omega) _ _ _ rfl rfl HKY.out _ [] (plainElem_int Try.underlying3 hmx) ?_; intro W5 hown5 hg5; have HOW5 := Aside0.mk hown5; have HG5 := Aside0.mk hg5; clear hown5 hg5)
  go_end0
  have hset : Hd.putL L m r.f1 = Hd.setA L m (Hd.putS xs r.f1) := by unfold Hd.putL; rw [HF.out]; rfl
  have hl5 : (Hd.putL L m r.f1).length = L.length := by rw [hset, Hd.setA_len HAS3.out.ok.sorted, HF.out, if_neg (by simp)]
  refine head_row.good (D' := D.put (Hd.key m) (.lit (.int .i64 (max lt t)))) HR.out ⟨HAS3.out.lo, ?_, HOW5.out, ?_, (Hd.rowF_ok HAS3.out.ok HR.out).1, by rw [hl5]; exact HAS3.out.mono, ?_⟩
  · rw [hl5]
    exact blk_grown (blk_drewN HAS3.out.blk _) HG5.out (fun h => by
      have h1 : ab = nb := Option.some.inj h
      have h2 := HAS3.out.blk
      obtain ⟨es, ck, h3, _⟩ := HAS3.out.map
      rw [h1, h3] at h2
      cases h2)
  · rw [hset, HTV.out]
    exact HAS3.out.nw.step HMD.out _
  · exact (pw_below_drewN HAS3.out.below _).grown HG5.out (by have := HAS3.out.below.size; exact this) (fun k hk => by cases hk; exact HAS3.out.lo.2)
set_option maxHeartbeats 8000000 in
set_option maxRecDepth 100000 in
theorem head_row.none_bad (w0 : World) (base hb mb ab nb : Nat) (win low : Int) (S : List Hd.Ent) (L : Hd.A) (j : Nat) (A : Option Addr) (c : Nat) (r : S46) (W : World)
    (hC : Kd.C k53 W A r.f0.length r.f0) (hc : r.f0.length ≤ c) (hH : Hd.HR base hb mb win S w0) (D : DataW Unit) (hS : Hd.AS w0 hb ab nb low (Hd.abs S) L j D W) (m : List S53) (hm : Hl.mk r.f0 = some m) (hb1 : -9007199254740992 ≤ r.f1.f0) (hb2 : r.f1.f0 ≤ 9007199254740992) (hb0 : ¬ r.f1.f0 < low) (hf : Hd.find L m = none) (hh : Maps.has D (Hd.key m) = false) (hb6 : 1000 ≤ L.length) :
    Calls Try.prog 125 #[.pointer (some ⟨ab, 0, none⟩), .agg #[.slice A r.f0.length c, .int .i64 r.f1.f0, .int .i64 r.f1.f1]] W fun e w' => head_row.Post w0 hb ab nb win low (Hd.abs S) L j r e w' := by
  have HR := Aside0.mk (show Hd.rowF win low L r = .error 2 from by unfold Hd.rowF; rw [hm]; simp only; rw [if_neg (by unfold Hd.maxT; omega), if_neg hb0, hf]; simp only; rw [if_pos hb6])
  have HM := Aside0.mk hm
  have HMAKE := Aside0.mk (fun W' (hb : Below W.heap.size W W') => labels_Make.calls A c r.f0 W' (Kd.C_below hC hb) hc)
  have HAS := Aside0.mk hS
  have HH := Aside0.mk hH
  obtain ⟨n, hn⟩ : ∃ n, n = r.f0.length := ⟨_, rfl⟩
  obtain ⟨t, ht⟩ : ∃ t, t = r.f1.f0 := ⟨_, rfl⟩
  obtain ⟨v, hv⟩ : ∃ v, v = r.f1.f1 := ⟨_, rfl⟩
  rw [← hn] at HMAKE
  rw [← hn, ← ht, ← hv]
  rw [← ht] at hb1 hb2 hb0
  have HT := Aside0.mk ht
  clear hm hC hc hS hn hv ht hH
  go_enter Try.func125, Try.ntmps125
  go_upto_region 1 with fail
  refine cwp_world ?_
  intro W1 hW1
  obtain ⟨g, hg⟩ : ∃ g, g = W.heap.size := ⟨_, rfl⟩
  have HBK := Aside0.mk (show W1.heap[g]? = some (.cells #[.slice A n c, .int .i64 t, .int .i64 v] 46 (0, 0)) by rw [hW1, hg]; exact blk_new _ _)
  have z0 : W1.cell? ⟨g, 0, none⟩ = some (.slice A n c) := (blk_cell HBK.out 0).trans rfl
  have hbx : Below W.heap.size W W1 := by rw [hW1]; exact below_alloc (Below.refl _ _) _
  have HMK := Aside0.mk (HMAKE.out W1 hbx)
  have HAS1 := Aside0.mk (HAS.out.step hbx)
  rw [← hg]
  clear hW1 hg hbx HMAKE HAS
  have hx1 : ¬ t < -9007199254740992 := by omega
  have hx2 : ¬ t > 9007199254740992 := by omega
  have HMD := Aside0.mk (Hl.mk_made HM.out).1
  go_upto_region 9 with (go_at_call 101; (with_reducible refine HMK.out.mono ?_); rintro e W2 ⟨hb2, hp⟩; rw [HM.out] at hp; dsimp only at hp; obtain ⟨mv, he, hr⟩ := hp; subst he; obtain ⟨Am, cm, ev⟩ := Kd.R_slice hr; subst ev; have HRM := Aside0.mk hr; have HAS2 := Aside0.mk (HAS1.out.step hb2); have z1 := pw_cell_below hb2 ((blk_cell HBK.out 1).trans (show (#[.slice A n c, .int .i64 t, .int .i64 v] : Array Value)[1]? = some (.int .i64 t) from rfl)); have a3 := (blk_cell HAS2.out.blk 3).trans (show (#[.pointer (some ⟨hb, 0, none⟩), .map (some nb), .int .i64 ((L.length : Int) - ((Hd.abs S).length : Int)), .int .i64 low] : Array Value)[3]? = some (.int .i64 low) from rfl); clear hb2 hr)
  have HTX := Aside0.mk (labels_Text.calls Am cm m W2 (Kd.R_reads' HRM.out).2.2 (Kd.R_reads' HRM.out).2.1)
  clear a3 HBK HMK HAS1
  go_upto_region 10 with (go_at_call 62; (with_reducible refine HTX.out.mono ?_); rintro e W3 ⟨rfl, hb3⟩; have HAS3 := Aside0.mk (HAS2.out.step hb3); clear hb3)
  have HKY := Aside0.mk (Hd.keyOf_txt HMD.out)
  obtain ⟨cc, hlook, hat⟩ := head_row.look HAS3.out.map HKY.out
  have HH3 := Aside0.mk (HH.out.below (Below.mono HAS3.out.below (Nat.le_refl _)))
  have a0 := (blk_cell HAS3.out.blk 0).trans (show (#[.pointer (some ⟨hb, 0, none⟩), .map (some nb), .int .i64 ((L.length : Int) - ((Hd.abs S).length : Int)), .int .i64 low] : Array Value)[0]? = some (.pointer (some ⟨hb, 0, none⟩)) from rfl)
  have a1 := (blk_cell HAS3.out.blk 1).trans (show (#[.pointer (some ⟨hb, 0, none⟩), .map (some nb), .int .i64 ((L.length : Int) - ((Hd.abs S).length : Int)), .int .i64 low] : Array Value)[1]? = some (.map (some nb)) from rfl)
  have hf0 : Hd.find (Hd.abs S) m = none := by rw [← HAS3.out.nw.miss m HMD.out hh]; exact hf
  have HLAST := Aside0.mk (head_last.miss HH3.out HKY.out (Hd.miss_keys HH3.out HMD.out hf0))
  have a2 := (blk_cell HAS3.out.blk 2).trans (show (#[.pointer (some ⟨hb, 0, none⟩), .map (some nb), .int .i64 ((L.length : Int) - ((Hd.abs S).length : Int)), .int .i64 low] : Array Value)[2]? = some (.int .i64 ((L.length : Int) - ((Hd.abs S).length : Int))) from rfl)
  have b1 := (blk_cell HH3.out.head 1).trans (show (#[.int .i64 win, .map (some mb), .int .i64 (Hd.cnt (Hd.abs S) : Nat)] : Array Value)[1]? = some (.map (some mb)) from rfl)
  have hlen := Hd.len_of HH3.out
  have hab : (Hd.abs S).length = S.length := by unfold Hd.abs; exact List.length_map ..
  rw [hab] at a2
  have HAB := Aside0.mk hab
  have hmo := HAS3.out.mono
  rw [hab] at hmo
  have hL := HAS3.out.ok.len
  obtain ⟨sl, hsl⟩ : ∃ sl, sl = S.length := ⟨_, rfl⟩
  obtain ⟨ll, hll⟩ : ∃ ll, ll = L.length := ⟨_, rfl⟩
  rw [← hsl, ← hll] at a2
  rw [← hsl] at hlen
  rw [← hsl, ← hll] at hmo
  rw [← hll] at hL hb6
  have HSL := Aside0.mk hsl
  have HLL := Aside0.mk hll
  have hw1 : IntKind.i64.wrap ((ll : Int) - (sl : Int)) = (ll : Int) - (sl : Int) := by rw [IntKind.wrap_i64]; omega
  have hw2 : IntKind.i64.wrap ((sl : Int) + ((ll : Int) - (sl : Int))) = (ll : Int) := by rw [IntKind.wrap_i64]; omega
  have hw3 : IntKind.i64.wrap (ll : Int) = (ll : Int) := by rw [IntKind.wrap_i64]; omega
  have hw5 : (sl : Int) + ((ll : Int) - (sl : Int)) = (ll : Int) := by omega
  rw [hh] at hlook
  have HF := Aside0.mk hf
  clear hat hf0 hab hsl hll hh hf
  have hge : (1000 : Int) ≤ (ll : Int) := by omega
  have hge2 : (ll : Int) ≥ 1000 := by omega
  have HB3 := Aside0.mk HAS3.out.below
  clear hb0 hb1 hb2 hb6 hmo hL
  go_upto_region 15 with (go_at_call 84; (with_reducible refine HLAST.out.mono ?_); rintro e_ w_ ⟨rfl, nq, rfl⟩)
  go_quiet (fail)
  go_wp2_with fail
  refine ⟨rfl, ?_⟩
  exact head_row.bad (pw_below_drewN HB3.out _) HR.out
set_option maxHeartbeats 8000000 in
set_option maxRecDepth 100000 in
theorem head_row.none_ok (w0 : World) (base hb mb ab nb : Nat) (win low : Int) (S : List Hd.Ent) (L : Hd.A) (j : Nat) (A : Option Addr) (c : Nat) (r : S46) (W : World)
    (hC : Kd.C k53 W A r.f0.length r.f0) (hc : r.f0.length ≤ c) (hH : Hd.HR base hb mb win S w0) (D : DataW Unit) (hS : Hd.AS w0 hb ab nb low (Hd.abs S) L j D W) (m : List S53) (hm : Hl.mk r.f0 = some m) (hb1 : -9007199254740992 ≤ r.f1.f0) (hb2 : r.f1.f0 ≤ 9007199254740992) (hb0 : ¬ r.f1.f0 < low) (hf : Hd.find L m = none) (hh : Maps.has D (Hd.key m) = false) (hb6 : L.length < 1000) (hj : j ≤ 1000) :
    Calls Try.prog 125 #[.pointer (some ⟨ab, 0, none⟩), .agg #[.slice A r.f0.length c, .int .i64 r.f1.f0, .int .i64 r.f1.f1]] W fun e w' => head_row.Post w0 hb ab nb win low (Hd.abs S) L j r e w' := by
  have HR := Aside0.mk (show Hd.rowF win low L r = .ok (Hd.putL L m r.f1) from by unfold Hd.rowF; rw [hm]; simp only; rw [if_neg (by unfold Hd.maxT; omega), if_neg hb0, hf]; simp only; rw [if_neg (by omega)])
  have HJ := Aside0.mk hj
  clear hj
  have HM := Aside0.mk hm
  have HMAKE := Aside0.mk (fun W' (hb : Below W.heap.size W W') => labels_Make.calls A c r.f0 W' (Kd.C_below hC hb) hc)
  have HAS := Aside0.mk hS
  have HH := Aside0.mk hH
  obtain ⟨n, hn⟩ : ∃ n, n = r.f0.length := ⟨_, rfl⟩
  obtain ⟨t, ht⟩ : ∃ t, t = r.f1.f0 := ⟨_, rfl⟩
  obtain ⟨v, hv⟩ : ∃ v, v = r.f1.f1 := ⟨_, rfl⟩
  rw [← hn] at HMAKE
  rw [← hn, ← ht, ← hv]
  rw [← ht] at hb1 hb2 hb0
  have HT := Aside0.mk ht
  clear hm hC hc hS hn hv ht hH
  go_enter Try.func125, Try.ntmps125
  go_upto_region 1 with fail
  refine cwp_world ?_
  intro W1 hW1
  obtain ⟨g, hg⟩ : ∃ g, g = W.heap.size := ⟨_, rfl⟩
  have HBK := Aside0.mk (show W1.heap[g]? = some (.cells #[.slice A n c, .int .i64 t, .int .i64 v] 46 (0, 0)) by rw [hW1, hg]; exact blk_new _ _)
  have z0 : W1.cell? ⟨g, 0, none⟩ = some (.slice A n c) := (blk_cell HBK.out 0).trans rfl
  have hbx : Below W.heap.size W W1 := by rw [hW1]; exact below_alloc (Below.refl _ _) _
  have HMK := Aside0.mk (HMAKE.out W1 hbx)
  have HAS1 := Aside0.mk (HAS.out.step hbx)
  rw [← hg]
  clear hW1 hg hbx HMAKE HAS
  have hx1 : ¬ t < -9007199254740992 := by omega
  have hx2 : ¬ t > 9007199254740992 := by omega
  have HMD := Aside0.mk (Hl.mk_made HM.out).1
  go_upto_region 9 with (go_at_call 101; (with_reducible refine HMK.out.mono ?_); rintro e W2 ⟨hb2, hp⟩; rw [HM.out] at hp; dsimp only at hp; obtain ⟨mv, he, hr⟩ := hp; subst he; obtain ⟨Am, cm, ev⟩ := Kd.R_slice hr; subst ev; have HRM := Aside0.mk hr; have HAS2 := Aside0.mk (HAS1.out.step hb2); have z1 := pw_cell_below hb2 ((blk_cell HBK.out 1).trans (show (#[.slice A n c, .int .i64 t, .int .i64 v] : Array Value)[1]? = some (.int .i64 t) from rfl)); have a3 := (blk_cell HAS2.out.blk 3).trans (show (#[.pointer (some ⟨hb, 0, none⟩), .map (some nb), .int .i64 ((L.length : Int) - ((Hd.abs S).length : Int)), .int .i64 low] : Array Value)[3]? = some (.int .i64 low) from rfl); clear hb2 hr)
  have HTX := Aside0.mk (labels_Text.calls Am cm m W2 (Kd.R_reads' HRM.out).2.2 (Kd.R_reads' HRM.out).2.1)
  clear a3 HBK HMK HAS1
  go_upto_region 10 with (go_at_call 62; (with_reducible refine HTX.out.mono ?_); rintro e W3 ⟨rfl, hb3⟩; have HAS3 := Aside0.mk (HAS2.out.step hb3); clear hb3)
  have HKY := Aside0.mk (Hd.keyOf_txt HMD.out)
  obtain ⟨cc, hlook, hat⟩ := head_row.look HAS3.out.map HKY.out
  have HH3 := Aside0.mk (HH.out.below (Below.mono HAS3.out.below (Nat.le_refl _)))
  have a0 := (blk_cell HAS3.out.blk 0).trans (show (#[.pointer (some ⟨hb, 0, none⟩), .map (some nb), .int .i64 ((L.length : Int) - ((Hd.abs S).length : Int)), .int .i64 low] : Array Value)[0]? = some (.pointer (some ⟨hb, 0, none⟩)) from rfl)
  have a1 := (blk_cell HAS3.out.blk 1).trans (show (#[.pointer (some ⟨hb, 0, none⟩), .map (some nb), .int .i64 ((L.length : Int) - ((Hd.abs S).length : Int)), .int .i64 low] : Array Value)[1]? = some (.map (some nb)) from rfl)
  have hf0 : Hd.find (Hd.abs S) m = none := by rw [← HAS3.out.nw.miss m HMD.out hh]; exact hf
  have HLAST := Aside0.mk (head_last.miss HH3.out HKY.out (Hd.miss_keys HH3.out HMD.out hf0))
  have a2 := (blk_cell HAS3.out.blk 2).trans (show (#[.pointer (some ⟨hb, 0, none⟩), .map (some nb), .int .i64 ((L.length : Int) - ((Hd.abs S).length : Int)), .int .i64 low] : Array Value)[2]? = some (.int .i64 ((L.length : Int) - ((Hd.abs S).length : Int))) from rfl)
  have b1 := (blk_cell HH3.out.head 1).trans (show (#[.int .i64 win, .map (some mb), .int .i64 (Hd.cnt (Hd.abs S) : Nat)] : Array Value)[1]? = some (.map (some mb)) from rfl)
  have hlen := Hd.len_of HH3.out
  have hab : (Hd.abs S).length = S.length := by unfold Hd.abs; exact List.length_map ..
  rw [hab] at a2
  have HAB := Aside0.mk hab
  have hmo := HAS3.out.mono
  rw [hab] at hmo
  have hL := HAS3.out.ok.len
  obtain ⟨sl, hsl⟩ : ∃ sl, sl = S.length := ⟨_, rfl⟩
  obtain ⟨ll, hll⟩ : ∃ ll, ll = L.length := ⟨_, rfl⟩
  rw [← hsl, ← hll] at a2
  rw [← hsl] at hlen
  rw [← hsl, ← hll] at hmo
  rw [← hll] at hL hb6
  have HSL := Aside0.mk hsl
  have HLL := Aside0.mk hll
  have hw1 : IntKind.i64.wrap ((ll : Int) - (sl : Int)) = (ll : Int) - (sl : Int) := by rw [IntKind.wrap_i64]; omega
  have hw2 : IntKind.i64.wrap ((sl : Int) + ((ll : Int) - (sl : Int))) = (ll : Int) := by rw [IntKind.wrap_i64]; omega
  have hw3 : IntKind.i64.wrap (ll : Int) = (ll : Int) := by rw [IntKind.wrap_i64]; omega
  have hw5 : (sl : Int) + ((ll : Int) - (sl : Int)) = (ll : Int) := by omega
  rw [hh] at hlook
  have HF := Aside0.mk hf
  clear hat hf0 hab hsl hll hh hf
  have hge : ¬ (1000 : Int) ≤ (ll : Int) := by omega
  have hge2 : ¬ (ll : Int) ≥ 1000 := by omega
  have hw4 : IntKind.i64.wrap ((ll : Int) - (sl : Int) + 1) = (ll : Int) - (sl : Int) + 1 := by rw [IntKind.wrap_i64]; omega
  have hmx : (Lit.int .i64 t).wf = true := WalkArith.wf_i64 (by omega)
  have hmm : max t t = t := by omega
  have HL1 := Aside0.mk hb6
  clear hb0 hb6 hmo hL
  go_upto_region 15 with (go_at_call 84; (with_reducible refine HLAST.out.mono ?_); rintro e_ w_ ⟨rfl, nq, rfl⟩)
  go_quiet (fail)
  go_upto_region 18 with fail
  refine cwp_world ?_
  intro W5 hW5
  have hb5 : Below W3.heap.size W3 W5 := by rw [hW5]; exact pw_below_drewN (Below.refl _ _) _
  have HAS5 := Aside0.mk (HAS3.out.step hb5)
  have hbk5 : W5.heap[ab]? = some (.cells #[.pointer (some ⟨hb, 0, none⟩), .map (some nb), .int .i64 ((ll : Int) - (sl : Int)), .int .i64 low] 184 (0, 0)) := by rw [HLL.out, HSL.out, ← HAB.out]; exact HAS5.out.blk
  have HBK5 := Aside0.mk hbk5
  have c2 : W5.cell? ⟨ab, 2, none⟩ = some (.int .i64 ((ll : Int) - (sl : Int))) := (blk_cell hbk5 2).trans rfl
  have c2f := blk_frozen hbk5 2
  clear hW5 hb5 a0 a1 a2 b1 hlen hlook hbk5 z1 HAS2 HLAST
  go_upto_region 19 with fail
  refine cwp_world ?_
  intro W6 hW6
  have HBK6 := Aside0.mk (show W6.heap[ab]? = some (.cells #[.pointer (some ⟨hb, 0, none⟩), .map (some nb), .int .i64 ((ll : Int) - (sl : Int) + 1), .int .i64 low] 184 (0, 0)) by rw [hW6]; exact blk_put HBK5.out 2 _ rfl)
  have hne : nb ≠ ab := by
    rintro rfl
    have h2 := HAS5.out.blk
    obtain ⟨es, ck, h3, _⟩ := HAS5.out.map
    rw [h3] at h2
    cases h2
  have HMP6 := Aside0.mk (show W6.ownsMap Try.prog 9 (plainElem Try.prog 3) nb j D by rw [hW6]; exact HAS5.out.map.setCell hne _)
  have HB6 := Aside0.mk (show Below w0.heap.size w0 W6 by rw [hW6]; exact HAS5.out.below.setCell (p := ⟨ab, 2, none⟩) HAS5.out.lo.1 _)
  have d1 : W6.cell? ⟨ab, 1, none⟩ = some (.map (some nb)) := (blk_cell HBK6.out 1).trans rfl
  have HNE := Aside0.mk hne
  clear hW6 c2 c2f hne
  go_wp2_with (at_mapUpdate; refine wpList_mapUpdate_own _ rfl _ _ _ 102 rfl 9 3 Hd.law9 Try.underlying102 _ nb j D rfl HMP6.out (by have := HJ.out; unfold maxLen; omega) _ _ _ rfl rfl HKY.out _ [] (plainElem_int Try.underlying3 hmx) ?_; intro W7 hown7 hg7; have HOW7 := Aside0.mk hown7; have HG7 := Aside0.mk hg7; clear hown7 hg7)
  go_end0
  have hset : Hd.putL L m r.f1 = Hd.setA L m [r.f1] := by unfold Hd.putL; rw [HF.out]; rfl
  have hl5 : (Hd.putL L m r.f1).length = ll + 1 := by rw [hset, Hd.setA_len HAS3.out.ok.sorted, HF.out, if_pos rfl, HLL.out]
  refine head_row.good (D' := D.put (Hd.key m) (.lit (.int .i64 t))) HR.out ⟨HAS3.out.lo, ?_, HOW7.out, ?_, (Hd.rowF_ok HAS3.out.ok HR.out).1, by rw [hl5, HLL.out]; exact Nat.le_succ_of_le HAS3.out.mono, ?_⟩
  · rw [hl5, HAB.out, ← HSL.out, show (((ll + 1 : Nat) : Int) - (sl : Int)) = (ll : Int) - (sl : Int) + 1 by omega]
    exact blk_grown HBK6.out HG7.out (fun h => HNE.out (Option.some.inj h).symm)
  · rw [hset, HT.out]
    exact HAS3.out.nw.step HMD.out [r.f1]
  · exact HB6.out.grown HG7.out HB6.out.size (fun k hk => by cases hk; exact HAS3.out.lo.2)
theorem head_row.calls (w0 : World) (base hb mb ab nb : Nat) (win low : Int) (S : List Hd.Ent) (L : Hd.A) (j : Nat) (A : Option Addr) (c : Nat) (r : S46) (W : World)
    (hC : Kd.C k53 W A r.f0.length r.f0) (hc : r.f0.length ≤ c) (hH : Hd.HR base hb mb win S w0) (D : DataW Unit) (hS : Hd.AS w0 hb ab nb low (Hd.abs S) L j D W) (hj : j ≤ 1000) :
    Calls Try.prog 125 #[.pointer (some ⟨ab, 0, none⟩), .agg #[.slice A r.f0.length c, .int .i64 r.f1.f0, .int .i64 r.f1.f1]] W fun e w' => head_row.Post w0 hb ab nb win low (Hd.abs S) L j r e w' := by
  cases hm : Hl.mk r.f0 with
  | none => exact head_row.label w0 base hb mb ab nb win low S L j A c r W hC hc hH D hS hm
  | some m =>
    by_cases h1 : r.f1.f0 < -9007199254740992
    · exact head_row.timeA w0 base hb mb ab nb win low S L j A c r W hC hc hH D hS m hm h1
    by_cases h2 : 9007199254740992 < r.f1.f0
    · exact head_row.timeB w0 base hb mb ab nb win low S L j A c r W hC hc hH D hS m hm h2
    by_cases h3 : r.f1.f0 < low
    · exact head_row.low w0 base hb mb ab nb win low S L j A c r W hC hc hH D hS m hm (by omega) (by omega) h3
    cases hf : Hd.find L m with
    | some xs =>
      by_cases h5 : r.f1.f0 < Hd.lastT xs - win
      · cases hh : Maps.has D (Hd.key m) with
        | true => exact head_row.newest_bad w0 base hb mb ab nb win low S L j A c r W hC hc hH D hS m hm (by omega) (by omega) h3 xs hf hh h5
        | false => exact head_row.head_bad w0 base hb mb ab nb win low S L j A c r W hC hc hH D hS m hm (by omega) (by omega) h3 xs hf hh h5
      · cases hh : Maps.has D (Hd.key m) with
        | true => exact head_row.newest_ok w0 base hb mb ab nb win low S L j A c r W hC hc hH D hS m hm (by omega) (by omega) h3 xs hf hh h5 hj
        | false => exact head_row.head_ok w0 base hb mb ab nb win low S L j A c r W hC hc hH D hS m hm (by omega) (by omega) h3 xs hf hh h5 hj
    | none =>
      cases hh : Maps.has D (Hd.key m) with
      | true =>
        obtain ⟨xs, hx, _⟩ := hS.nw.hit m (Hl.mk_made hm).1 hh
        rw [hf] at hx
        cases hx
      | false =>
        by_cases h6 : 1000 ≤ L.length
        · exact head_row.none_bad w0 base hb mb ab nb win low S L j A c r W hC hc hH D hS m hm (by omega) (by omega) h3 hf hh h6
        · exact head_row.none_ok w0 base hb mb ab nb win low S L j A c r W hC hc hH D hS m hm (by omega) (by omega) h3 hf hh (by omega) hj
end
end Go.Proofs.Ytcgocdhffcnleaa.PHead
