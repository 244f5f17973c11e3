/- A part of the proofs about the head: see the theorems' own lines. -/
import Derived.Test.YtcgocdhffcnleaaXHdN
import Derived.Lib.Overlaps
import Derived.Laws.CopyOwn
import Derived.Laws.IdiomCopy
import Derived.Lib.AppendZeros
import Derived.StillTailTactics
import Derived.Outline
namespace Go.Proofs.Ytcgocdhffcnleaa.PHead
open Go Go.RowKit Go.Proofs.YtcgocdhffcnleaaW.PrintWords Go.Proofs.YtcgocdhffcnleaaW.PrintLast Go.Proofs.YtcgocdhffcnleaaW.PrintMore Go.Proofs.Ytcgocdhffcnleaa.XB Go.Proofs.Ytcgocdhffcnleaa.PHeadPlays Go.Proofs.Ytcgocdhffcnleaa.XH
set_option linter.unusedVariables false
set_option linter.unusedSimpArgs false
/-! ### put -/
section
open Go.Maps
theorem R44_set {W : World} {base g n cap : Nat} {xs : List S44} (h : k44.R 44 W base (fun _ => True) (.slice (some ⟨g, 0, none⟩) n cap) xs) (j : Nat) (hj : j < xs.length) (y : S44) :
    k44.R 44 ((W.setCell ⟨g, j * 2, none⟩ (.int .i64 y.f0)).setCell ⟨g, j * 2 + 1, none⟩ (.int .i64 y.f1)) base (fun _ => True) (.slice (some ⟨g, 0, none⟩) n cap) (xs.set j y) := by
  obtain ⟨hn, _, hb, cur, hh, hs, hc⟩ := R44_cells h
  obtain ⟨x0, x1⟩ := hc j xs[j] (List.getElem?_eq_getElem hj)
  have hcc : ∀ q u, [Value.int .i64 xs[j].f0, Value.int .i64 xs[j].f1][q]? = some u → W.cell? ⟨g, (j : Int).toNat * k44.sz + q, none⟩ = some u := by
    intro q u hu
    rw [Int.toNat_natCast]
    match q with
    | 0 => rw [← hu]; exact x0
    | 1 => rw [← hu]; exact x1
    | q + 2 => simp at hu
  have := Kd.R_seg (okp := fun _ => False) (j := 0) (seg := [.int .i64 y.f0, .int .i64 y.f1]) (x' := y) h (j : Int) (by omega) (by omega) (c := [.int .i64 xs[j].f0, .int .i64 xs[j].f1]) rfl hcc (Nat.le_refl 2) (k44_mkM _ _ _ y) (fun _ h => h.elim)
  rw [Int.toNat_natCast] at this
  exact this.1
def head_put.Post (base hb mb : Nat) (win : Int) (S : List Hd.Ent) (m : List S53) (lv : Value) (s : S44) (W : World) (e : Ending) (w' : World) : Prop :=
  e = .returned (.tuple #[]) ∧ ∃ S', Hd.HR base hb mb win S' w' ∧ Hd.abs S' = Hd.putL (Hd.abs S) m s ∧ Hd.Fr (fun k => Hd.Own hb mb S k ∨ lv.ownBlock = some k) (Hd.Own hb mb S') W w'
set_option maxHeartbeats 8000000 in
set_option maxRecDepth 100000 in
theorem head_put.over (base hb mb : Nat) (win : Int) (S : List Hd.Ent) (Am : Option Addr) (cm : Nat) (m : List S53) (s : S44) (W : World) (hH : Hd.HR base hb mb win S W) (hm : Hl.made m) (hR : k53.R 53 W base (fun _ => True) (.slice Am m.length cm) m)
    (hok : Hd.Ok (Hd.putL (Hd.abs S) m s)) (e : Hd.Ent) (he : e ∈ S) (hel : e.ls = m) (hl : e.xs.length ≤ 1099511627776) (hth : Hd.there e.xs s.f0 = true) :
    Calls Try.prog 115 #[.pointer (some ⟨hb, 0, none⟩), .slice Am m.length cm, .agg #[.int .i64 s.f0, .int .i64 s.f1]] W fun e' w' => head_put.Post base hb mb win S m (.slice Am m.length cm) s W e' w' := by
  have HH := Aside0.mk hH
  have HTX := Aside0.mk (fun W' (hb : Below W.heap.size W W') => labels_Text.calls Am cm m W' (Kd.C_below (Kd.R_reads' hR).2.2 hb) (Kd.R_reads' hR).2.1)
  have HE := Aside0.mk he
  have HEL := Aside0.mk hel
  have HM := Aside0.mk hm
  have HKY := Aside0.mk (Hd.keyOf_txt hm)
  have HTH := Aside0.mk hth
  have HOK := Aside0.mk hok
  have HLX := Aside0.mk hl
  obtain ⟨ml, hml⟩ : ∃ ml, ml = m.length := ⟨_, rfl⟩
  obtain ⟨t, ht⟩ : ∃ t, t = s.f0 := ⟨_, rfl⟩
  obtain ⟨v, hv⟩ : ∃ v, v = s.f1 := ⟨_, rfl⟩
  have HT := Aside0.mk ht
  have HV := Aside0.mk hv
  have HML := Aside0.mk hml
  rw [← hml] at HTX
  rw [← hml, ← ht, ← hv]
  clear hH hm hR hok he hel hl hth hml ht hv
  go_enter Try.func115, Try.ntmps115
  go_upto_region 1 with fail
  refine cwp_world ?_
  intro W1 hW1
  obtain ⟨bx, hbx⟩ : ∃ g, g = W.heap.size := ⟨_, rfl⟩
  have HX1 := Aside0.mk (show W1.heap[bx]? = some (.cells #[.int .i64 t, .int .i64 v] 44 (0, 0)) by rw [hW1, hbx]; exact blk_new _ _)
  have hb1 : Below W.heap.size W W1 := by rw [hW1]; exact below_alloc (Below.refl _ _) _
  have HB1 := Aside0.mk hb1
  have HT1 := Aside0.mk (HTX.out W1 hb1)
  have HBX := Aside0.mk hbx
  rw [← hbx]
  clear hW1 hbx hb1 HTX
  go_upto_region 2 with (go_at_call 62; (with_reducible refine HT1.out.mono ?_); rintro e2 W4 ⟨rfl, hb2⟩; have HX4 := Aside0.mk (blk_below HX1.out hb2); have HB4 := Aside0.mk (below_step HB1.out hb2); clear hb2)
  have HH4 := Aside0.mk (HH.out.below HB4.out)
  have hlook := HH4.out.look_hit HE.out (s := Hl.txt m) (by rw [HEL.out]; exact HKY.out)
  have b1 := (blk_cell HH4.out.head 1).trans (show (#[.int .i64 win, .map (some mb), .int .i64 (Hd.cnt (Hd.abs S) : Nat)] : Array Value)[1]? = some (.map (some mb)) from rfl)
  have HEN4 := Aside0.mk (HH4.out.ent e HE.out)
  have hxne := Hd.ne_of HH4.out HE.out
  have HRI := Aside0.mk (HH4.out.ok.rise (e.ls, e.xs) (List.mem_map_of_mem HE.out))
  obtain ⟨els, xs, eg, elv, esv⟩ := e
  dsimp only at hlook HRI HTH HLX hxne HEL
  obtain ⟨gs, cs, hsv, hgs, _, _⟩ := Kd.R_form HEN4.out.sam (List.length_pos_iff.2 hxne)
  dsimp only at hsv
  subst hsv
  obtain ⟨n, hn⟩ : ∃ n, n = xs.length := ⟨_, rfl⟩
  have HN := Aside0.mk hn
  have HS4 := Aside0.mk HEN4.out.sam
  have HG4 := Aside0.mk HEN4.out.blk
  dsimp only at HS4 HG4
  rw [← hn] at HS4 HG4
  obtain ⟨As, hAs⟩ : ∃ As : Option Addr, As = some ⟨gs, 0, none⟩ := ⟨_, rfl⟩
  rw [← hAs] at HS4 HG4
  have HAS := Aside0.mk hAs
  have HSE := Aside0.mk (fun W (hb : Below W4.heap.size W4 W) => by
    have h1 := Kd.C_below (Kd.R_reads' HS4.out).2.2 hb
    have h2 := head_search.calls As cs xs t W h1 HRI.out (by have := HLX.out; omega)
    rw [← hn] at h2
    exact h2)
  obtain ⟨p, hp⟩ : ∃ p, p = Hd.pos xs t := ⟨_, rfl⟩
  have HP := Aside0.mk hp
  have HTHT := Aside0.mk (show Hd.there xs t = true by rw [HT.out]; exact HTH.out)
  rw [← hp, HTHT.out] at HSE
  clear HT1 hgs hn hp hAs hxne
  go_upto_region 7 with fail
  clear hlook b1
  have HBD := Aside0.mk (below_drew1 (Below.refl W4.heap.size W4))
  refine start_ (n := 13) (S := fun w' => w'.cell? ⟨eg, 1, none⟩ = some (.slice As n cs) ∧ w'.cell? ⟨bx, 0, none⟩ = some (.int .i64 t)) (ds := []) #[false, false, false, false, false, false, false, false, false, false, false, false, false] (by kernel_rfl) rfl rfl ⟨(blk_cell HG4.out 1).trans rfl, (blk_cell HX4.out 0).trans rfl⟩ (fun hHeld => ?_)
  generalize W4.drew = WD at HBD hHeld ⊢
  refine pure_ (i := 0) (N := (some 31)) (v := ?_) (a' := ?_) #[true, false, false, false, false, false, false, false, false, false, false, false, false] rfl rfl (by kernel_rfl) (fun _ _ _ h => h) (Or.inl ⟨by rfl, ?_⟩) ?_ ?_
  rotate_left
  · intro w'
    go_simp
    with_reducible rfl
  rotate_left
  · simp only [Act.put, List.setIfInBounds_toArray, List.set_cons_zero, List.set_cons_succ, i64_w, i32_w]
    rfl
  refine pure_ (i := 1) (N := (some 32)) (v := ?_) (a' := ?_) #[true, true, false, false, false, false, false, false, false, false, false, false, false] rfl rfl (by kernel_rfl) (fun _ _ _ h => h) (Or.inl ⟨by rfl, ?_⟩) ?_ ?_
  rotate_left
  · intro w'
    go_simp
    with_reducible rfl
  rotate_left
  · simp only [Act.put, List.setIfInBounds_toArray, List.set_cons_zero, List.set_cons_succ, i64_w, i32_w]
    rfl
  refine pure_ (i := 2) (N := (some 33)) (v := ?_) (a' := ?_) #[true, true, true, false, false, false, false, false, false, false, false, false, false] rfl rfl (by kernel_rfl) (fun _ _ _ h => h) (Or.inl ⟨by rfl, ?_⟩) ?_ ?_
  rotate_left
  · intro w'
    go_simp
    with_reducible rfl
  rotate_left
  · simp only [Act.put, List.setIfInBounds_toArray, List.set_cons_zero, List.set_cons_succ, i64_w, i32_w]
    rfl
  refine take_ (i := 3) (N := (some 34)) (v := ?_) (a' := ?_) #[true, true, true, true, false, false, false, false, false, false, false, false, false] rfl rfl (by kernel_rfl) (fun _ _ _ h => h) (Or.inl ⟨by rfl, ?_⟩) hHeld ?_ ?_
  rotate_left
  · rintro w' ⟨s0, s1⟩
    go_simp
    with_reducible rfl
  rotate_left
  · simp only [Act.put, List.setIfInBounds_toArray, List.set_cons_zero, List.set_cons_succ, i64_w, i32_w]
    rfl
  refine pure_ (i := 4) (N := (some 35)) (v := ?_) (a' := ?_) #[true, true, true, true, true, false, false, false, false, false, false, false, false] rfl rfl (by kernel_rfl) (fun _ _ _ h => h) (Or.inl ⟨by rfl, ?_⟩) ?_ ?_
  rotate_left
  · intro w'
    go_simp
    with_reducible rfl
  rotate_left
  · simp only [Act.put, List.setIfInBounds_toArray, List.set_cons_zero, List.set_cons_succ, i64_w, i32_w]
    rfl
  refine take_ (i := 5) (N := (some 36)) (v := ?_) (a' := ?_) #[true, true, true, true, true, true, false, false, false, false, false, false, false] rfl rfl (by kernel_rfl) (fun _ _ _ h => h) (Or.inl ⟨by rfl, ?_⟩) hHeld ?_ ?_
  rotate_left
  · rintro w' ⟨s0, s1⟩
    go_simp
    with_reducible rfl
  rotate_left
  · simp only [Act.put, List.setIfInBounds_toArray, List.set_cons_zero, List.set_cons_succ, i64_w, i32_w]
    rfl
  refine pure_ (i := 6) (N := (some 37)) (v := ?_) (a' := ?_) #[true, true, true, true, true, true, true, false, false, false, false, false, false] rfl rfl (by kernel_rfl) (fun _ _ _ h => h) (Or.inl ⟨by rfl, ?_⟩) ?_ ?_
  rotate_left
  · intro w'
    go_simp
    with_reducible rfl
  rotate_left
  · simp only [Act.put, List.setIfInBounds_toArray, List.set_cons_zero, List.set_cons_succ, i64_w, i32_w]
    rfl
  refine one_ (i := 7) (N := (some 38)) #[true, true, true, true, true, true, true, true, false, false, false, false, false] rfl rfl (by kernel_rfl) (by decide) (fun K hK => ?_)
  refine goes_ Try.func138 (by kernel_rfl) rfl #[.slice As n cs, .int .i64 t, .func (.func 137) #[] #[]] (by rfl) rfl rfl (by first | (simp; done) | ((try simp only [List.map_toArray, List.map_cons, List.map_nil]); first | done | rfl)) ?_
  (with_reducible refine (HSE.out _ HBD.out).mono ?_)
  rintro e W5 ⟨rfl, hb5⟩
  refine ⟨_, rfl, ?_⟩
  have HB5 := Aside0.mk (below_step HBD.out hb5)
  clear hb5 HBD
  refine hK.out _ _ ⟨(blk_cell (blk_below HG4.out HB5.out) 1).trans rfl, (blk_cell (blk_below HX4.out HB5.out) 0).trans rfl⟩ (fun hHeld => ?_)
  clear hK K
  refine norm_ (a' := ?_) ?_ ?_
  rotate_left
  · show Act.put _ (some 38) _ = _
    simp only [Act.put, List.setIfInBounds_toArray, List.set_cons_zero, List.set_cons_succ, i64_w, i32_w]
    rfl
  refine pure_ (i := 8) (N := (some 30)) (v := ?_) (a' := ?_) #[true, true, true, true, true, true, true, true, true, false, false, false, false] rfl rfl (by kernel_rfl) (fun _ _ _ h => h) (Or.inl ⟨by rfl, ?_⟩) ?_ ?_
  rotate_left
  · intro w'
    go_simp
    with_reducible rfl
  rotate_left
  · simp only [Act.put, List.setIfInBounds_toArray, List.set_cons_zero, List.set_cons_succ, i64_w, i32_w]
    rfl
  refine pure_ (i := 9) (N := (some 39)) (v := ?_) (a' := ?_) #[true, true, true, true, true, true, true, true, true, true, false, false, false] rfl rfl (by kernel_rfl) (fun _ _ _ h => h) (Or.inl ⟨by rfl, ?_⟩) ?_ ?_
  rotate_left
  · intro w'
    go_simp
    with_reducible rfl
  rotate_left
  · simp only [Act.put, List.setIfInBounds_toArray, List.set_cons_zero, List.set_cons_succ, i64_w, i32_w]
    rfl
  refine pure_ (i := 10) (N := (some 40)) (v := ?_) (a' := ?_) #[true, true, true, true, true, true, true, true, true, true, true, false, false] rfl rfl (by kernel_rfl) (fun _ _ _ h => h) (Or.inl ⟨by rfl, ?_⟩) ?_ ?_
  rotate_left
  · intro w'
    go_simp
    with_reducible rfl
  rotate_left
  · simp only [Act.put, List.setIfInBounds_toArray, List.set_cons_zero, List.set_cons_succ, i64_w, i32_w]
    rfl
  refine pure_ (i := 11) (N := (some 9)) (v := ?_) (a' := ?_) #[true, true, true, true, true, true, true, true, true, true, true, true, false] rfl rfl (by kernel_rfl) (fun _ _ _ h => h) (Or.inl ⟨by rfl, ?_⟩) ?_ ?_
  rotate_left
  · intro w'
    go_simp
    with_reducible rfl
  rotate_left
  · simp only [Act.put, List.setIfInBounds_toArray, List.set_cons_zero, List.set_cons_succ, i64_w, i32_w]
    rfl
  refine pure_ (i := 12) (N := (some 10)) (v := ?_) (a' := ?_) #[true, true, true, true, true, true, true, true, true, true, true, true, true] rfl rfl (by kernel_rfl) (fun _ _ _ h => h) (Or.inl ⟨by rfl, ?_⟩) ?_ ?_
  rotate_left
  · intro w'
    go_simp
    with_reducible rfl
  rotate_left
  · simp only [Act.put, List.setIfInBounds_toArray, List.set_cons_zero, List.set_cons_succ, i64_w, i32_w]
    rfl
  refine done_ (by kernel_rfl) ?_
  go_upto_region 9 with fail
  obtain rfl : As = some ⟨gs, 0, none⟩ := HAS.out
  have HG5 := Aside0.mk (blk_below HG4.out HB5.out)
  have HX5 := Aside0.mk (blk_below HX4.out HB5.out)
  have HS5 := Aside0.mk (Kd.R_below HS4.out HB5.out)
  obtain ⟨hnn, _, hbg, cur, hcur, hsz, hcc⟩ := R44_cells HS5.out
  have hpn : p < n := by
    have h1 := HTHT.out
    unfold Hd.there at h1
    rw [← HP.out] at h1
    rcases Nat.lt_or_ge p xs.length with h2 | h2
    · have := HN.out; omega
    · rw [List.getElem?_eq_none h2] at h1
      cases h1
  have hpz : (p : Int) < (n : Int) := by omega
  have hp0 : (0 : Int) ≤ (p : Int) := by omega
  obtain ⟨y0, y1, c1, f1, c2, f2⟩ := two_of (j := p * 2) hcur (by have := (R44_cells HS5.out).2.1; omega) (.int .i64 t)
  have HSS := Aside0.mk (R44_set HS5.out p (by have := HN.out; omega) s)
  rw [← HT.out, ← HV.out] at HSS
  have d0 : W5.drew.cell? ⟨eg, 1, none⟩ = some (.slice (some ⟨gs, 0, none⟩) n cs) := (blk_cell HG5.out 1).trans rfl
  have d1 : W5.drew.cell? ⟨bx, 0, none⟩ = some (.int .i64 t) := (blk_cell HX5.out 0).trans rfl
  have d2 : W5.drew.cell? ⟨bx, 1, none⟩ = some (.int .i64 v) := (blk_cell HX5.out 1).trans rfl
  have d3 : W5.drew.cell? ⟨gs, p * 2, none⟩ = some y0 := c1
  have d4 : W5.drew.frozen? ⟨gs, p * 2, none⟩ = false := f1
  have HCU := Aside0.mk hcur
  clear hcc hcur hsz hnn c1 f1 hHeld
  go_region
  go_wp2_with fail
  refine bodyPost_ret (results_none rfl _ _ _) rfl ?_
  have HH5 := HH4.out.below HB5.out
  have hfd : Hd.find (Hd.abs S) els = some xs := Hd.find_ent_some HH5.ok.sorted HE.out
  have hxs : Hd.putS xs s = xs.set p s := by rw [HP.out, HT.out]; exact Hd.putS_there HTH.out
  have hput : Hd.putL (Hd.abs S) m s = Hd.setA (Hd.abs S) els (xs.set p s) := by
    unfold Hd.putL
    rw [← HEL.out, hfd]
    show Hd.setA (Hd.abs S) els (Hd.putS xs s) = _
    rw [hxs]
  have hcnt : Hd.cnt (Hd.setA (Hd.abs S) els (xs.set p s)) = Hd.cnt (Hd.abs S) := by
    have := Hd.cnt_setA (L := Hd.abs S) (m := els) (xs := xs.set p s) HH5.ok.sorted
    rw [hfd] at this
    simp only [Option.getD_some, List.length_set] at this
    omega
  have hfar : ∀ k, k ≠ gs → ((W5.setCell ⟨gs, p * 2, none⟩ (.int .i64 t)).setCell ⟨gs, p * 2 + 1, none⟩ (.int .i64 v)).heap[k]? = W5.heap[k]? := fun k hk => (Below.heap_setCell _ ⟨gs, p * 2 + 1, none⟩ _ k hk).trans (Below.heap_setCell _ ⟨gs, p * 2, none⟩ _ k hk)
  have hge : eg ≠ gs := by
    rintro rfl
    exact absurd (Hd.type_ne HG5.out HCU.out) (by decide)
  have hgh : hb ≠ gs := by
    rintro rfl
    exact absurd (Hd.type_ne HH5.head HCU.out) (by decide)
  have hgB : W.heap.size ≤ W5.heap.size := Nat.le_trans HB4.out.size HB5.out.size
  refine ⟨rfl, Hd.setE S ⟨els, xs.set p s, eg, elv, .slice (some ⟨gs, 0, none⟩) n cs⟩, ?_, ?_, ?_⟩
  · refine HH5.update (W' := ((W5.setCell ⟨gs, p * 2, none⟩ (.int .i64 t)).setCell ⟨gs, p * 2 + 1, none⟩ (.int .i64 v)).drew) HE.out ((hfar eg hge).trans HG5.out) HSS.out (.inl ?_) ?_ ?_ ?_
    · show (Value.slice (some ⟨gs, 0, none⟩) n cs).ownBlock = _
      rfl
    · have h9 := (hfar hb hgh).trans HH5.head
      rw [← hcnt] at h9
      exact h9
    · intro k hk h1 h2 h3
      exact hfar k (fun h4 => h3 (by rw [h4]; rfl))
    · rw [← hput]
      exact HOK.out
  · rw [Hd.abs_setE]
    exact hput.symm
  · have hown : Hd.Own hb mb S gs := .inr (.inr ⟨_, HE.out, .inr (.inr rfl)⟩)
    have hbw : Below W.heap.size W W5 := below_step HB4.out HB5.out
    refine ⟨hbw.os, hbw.tape, hbw.output, Nat.le_trans hgB (Nat.le_of_eq (by simp [World.setCell, World.drew])), fun k hk hn => (hfar k (fun h4 => hn (.inl (by rw [h4]; exact hown)))).trans (hbw.block k hk), fun k hk => ?_⟩
    rcases hk with h1 | h1 | ⟨x, hx, h1⟩
    · exact .inl (.inl (.inl h1))
    · exact .inl (.inl (.inr (.inl h1)))
    · rcases Hd.setE_mem (Hd.esorted_of HH5.ok.sorted) hx with rfl | ⟨hx, _⟩
      · exact .inl (.inl (.inr (.inr ⟨_, HE.out, h1⟩)))
      · exact .inl (.inl (.inr (.inr ⟨x, hx, h1⟩)))
set_option maxHeartbeats 8000000 in
set_option maxRecDepth 100000 in
theorem head_put.add (base hb mb : Nat) (win : Int) (S : List Hd.Ent) (Am : Option Addr) (cm : Nat) (m : List S53) (s : S44) (W : World) (hH : Hd.HR base hb mb win S W) (hm : Hl.made m) (hR : k53.R 53 W base (fun _ => True) (.slice Am m.length cm) m)
    (hok : Hd.Ok (Hd.putL (Hd.abs S) m s)) (e : Hd.Ent) (he : e ∈ S) (hel : e.ls = m) (hl : e.xs.length ≤ 1099511627776) (hth : Hd.there e.xs s.f0 = false) (hct : Hd.cnt (Hd.abs S) ≤ 1099511627776) :
    Calls Try.prog 115 #[.pointer (some ⟨hb, 0, none⟩), .slice Am m.length cm, .agg #[.int .i64 s.f0, .int .i64 s.f1]] W fun e' w' => head_put.Post base hb mb win S m (.slice Am m.length cm) s W e' w' := by
  have HH := Aside0.mk hH
  have HTX := Aside0.mk (fun W' (hb : Below W.heap.size W W') => labels_Text.calls Am cm m W' (Kd.C_below (Kd.R_reads' hR).2.2 hb) (Kd.R_reads' hR).2.1)
  have HE := Aside0.mk he
  have HEL := Aside0.mk hel
  have HM := Aside0.mk hm
  have HKY := Aside0.mk (Hd.keyOf_txt hm)
  have HTH := Aside0.mk hth
  have HOK := Aside0.mk hok
  have HLX := Aside0.mk hl
  have HCT := Aside0.mk hct
  obtain ⟨ml, hml⟩ : ∃ ml, ml = m.length := ⟨_, rfl⟩
  obtain ⟨t, ht⟩ : ∃ t, t = s.f0 := ⟨_, rfl⟩
  obtain ⟨v, hv⟩ : ∃ v, v = s.f1 := ⟨_, rfl⟩
  have HT := Aside0.mk ht
  have HV := Aside0.mk hv
  have HML := Aside0.mk hml
  rw [← hml] at HTX
  rw [← hml, ← ht, ← hv]
  clear hct hH hm hR hok he hel hl hth hml ht hv
  go_enter Try.func115, Try.ntmps115
  go_upto_region 1 with fail
  refine cwp_world ?_
  intro W1 hW1
  obtain ⟨bx, hbx⟩ : ∃ g, g = W.heap.size := ⟨_, rfl⟩
  have HX1 := Aside0.mk (show W1.heap[bx]? = some (.cells #[.int .i64 t, .int .i64 v] 44 (0, 0)) by rw [hW1, hbx]; exact blk_new _ _)
  have hb1 : Below W.heap.size W W1 := by rw [hW1]; exact below_alloc (Below.refl _ _) _
  have HB1 := Aside0.mk hb1
  have HT1 := Aside0.mk (HTX.out W1 hb1)
  have HBX := Aside0.mk hbx
  rw [← hbx]
  clear hW1 hbx hb1 HTX
  go_upto_region 2 with (go_at_call 62; (with_reducible refine HT1.out.mono ?_); rintro e2 W4 ⟨rfl, hb2⟩; have HX4 := Aside0.mk (blk_below HX1.out hb2); have HB4 := Aside0.mk (below_step HB1.out hb2); clear hb2)
  have HH4 := Aside0.mk (HH.out.below HB4.out)
  have hlook := HH4.out.look_hit HE.out (s := Hl.txt m) (by rw [HEL.out]; exact HKY.out)
  have b1 := (blk_cell HH4.out.head 1).trans (show (#[.int .i64 win, .map (some mb), .int .i64 (Hd.cnt (Hd.abs S) : Nat)] : Array Value)[1]? = some (.map (some mb)) from rfl)
  have HEN4 := Aside0.mk (HH4.out.ent e HE.out)
  have hxne := Hd.ne_of HH4.out HE.out
  have HRI := Aside0.mk (HH4.out.ok.rise (e.ls, e.xs) (List.mem_map_of_mem HE.out))
  obtain ⟨els, xs, eg, elv, esv⟩ := e
  dsimp only at hlook HRI HTH HLX hxne HEL
  obtain ⟨gs, cs, hsv, hgs, _, _⟩ := Kd.R_form HEN4.out.sam (List.length_pos_iff.2 hxne)
  dsimp only at hsv
  subst hsv
  obtain ⟨n, hn⟩ : ∃ n, n = xs.length := ⟨_, rfl⟩
  have HN := Aside0.mk hn
  have HS4 := Aside0.mk HEN4.out.sam
  have HG4 := Aside0.mk HEN4.out.blk
  dsimp only at HS4 HG4
  rw [← hn] at HS4 HG4
  obtain ⟨As, hAs⟩ : ∃ As : Option Addr, As = some ⟨gs, 0, none⟩ := ⟨_, rfl⟩
  rw [← hAs] at HS4 HG4
  have HAS := Aside0.mk hAs
  have HSE := Aside0.mk (fun W (hb : Below W4.heap.size W4 W) => by
    have h1 := Kd.C_below (Kd.R_reads' HS4.out).2.2 hb
    have h2 := head_search.calls As cs xs t W h1 HRI.out (by have := HLX.out; omega)
    rw [← hn] at h2
    exact h2)
  obtain ⟨p, hp⟩ : ∃ p, p = Hd.pos xs t := ⟨_, rfl⟩
  have HP := Aside0.mk hp
  have HTHT := Aside0.mk (show Hd.there xs t = false by rw [HT.out]; exact HTH.out)
  rw [← hp, HTHT.out] at HSE
  clear HT1 hgs hn hp hAs hxne
  go_upto_region 7 with fail
  clear hlook b1
  have HBD := Aside0.mk (below_drew1 (Below.refl W4.heap.size W4))
  refine start_ (n := 13) (S := fun w' => w'.cell? ⟨eg, 1, none⟩ = some (.slice As n cs) ∧ w'.cell? ⟨bx, 0, none⟩ = some (.int .i64 t)) (ds := []) #[false, false, false, false, false, false, false, false, false, false, false, false, false] (by kernel_rfl) rfl rfl ⟨(blk_cell HG4.out 1).trans rfl, (blk_cell HX4.out 0).trans rfl⟩ (fun hHeld => ?_)
  generalize W4.drew = WD at HBD hHeld ⊢
  refine pure_ (i := 0) (N := (some 31)) (v := ?_) (a' := ?_) #[true, false, false, false, false, false, false, false, false, false, false, false, false] rfl rfl (by kernel_rfl) (fun _ _ _ h => h) (Or.inl ⟨by rfl, ?_⟩) ?_ ?_
  rotate_left
  · intro w'
    go_simp
    with_reducible rfl
  rotate_left
  · simp only [Act.put, List.setIfInBounds_toArray, List.set_cons_zero, List.set_cons_succ, i64_w, i32_w]
    rfl
  refine pure_ (i := 1) (N := (some 32)) (v := ?_) (a' := ?_) #[true, true, false, false, false, false, false, false, false, false, false, false, false] rfl rfl (by kernel_rfl) (fun _ _ _ h => h) (Or.inl ⟨by rfl, ?_⟩) ?_ ?_
  rotate_left
  · intro w'
    go_simp
    with_reducible rfl
  rotate_left
  · simp only [Act.put, List.setIfInBounds_toArray, List.set_cons_zero, List.set_cons_succ, i64_w, i32_w]
    rfl
  refine pure_ (i := 2) (N := (some 33)) (v := ?_) (a' := ?_) #[true, true, true, false, false, false, false, false, false, false, false, false, false] rfl rfl (by kernel_rfl) (fun _ _ _ h => h) (Or.inl ⟨by rfl, ?_⟩) ?_ ?_
  rotate_left
  · intro w'
    go_simp
    with_reducible rfl
  rotate_left
  · simp only [Act.put, List.setIfInBounds_toArray, List.set_cons_zero, List.set_cons_succ, i64_w, i32_w]
    rfl
  refine take_ (i := 3) (N := (some 34)) (v := ?_) (a' := ?_) #[true, true, true, true, false, false, false, false, false, false, false, false, false] rfl rfl (by kernel_rfl) (fun _ _ _ h => h) (Or.inl ⟨by rfl, ?_⟩) hHeld ?_ ?_
  rotate_left
  · rintro w' ⟨s0, s1⟩
    go_simp
    with_reducible rfl
  rotate_left
  · simp only [Act.put, List.setIfInBounds_toArray, List.set_cons_zero, List.set_cons_succ, i64_w, i32_w]
    rfl
  refine pure_ (i := 4) (N := (some 35)) (v := ?_) (a' := ?_) #[true, true, true, true, true, false, false, false, false, false, false, false, false] rfl rfl (by kernel_rfl) (fun _ _ _ h => h) (Or.inl ⟨by rfl, ?_⟩) ?_ ?_
  rotate_left
  · intro w'
    go_simp
    with_reducible rfl
  rotate_left
  · simp only [Act.put, List.setIfInBounds_toArray, List.set_cons_zero, List.set_cons_succ, i64_w, i32_w]
    rfl
  refine take_ (i := 5) (N := (some 36)) (v := ?_) (a' := ?_) #[true, true, true, true, true, true, false, false, false, false, false, false, false] rfl rfl (by kernel_rfl) (fun _ _ _ h => h) (Or.inl ⟨by rfl, ?_⟩) hHeld ?_ ?_
  rotate_left
  · rintro w' ⟨s0, s1⟩
    go_simp
    with_reducible rfl
  rotate_left
  · simp only [Act.put, List.setIfInBounds_toArray, List.set_cons_zero, List.set_cons_succ, i64_w, i32_w]
    rfl
  refine pure_ (i := 6) (N := (some 37)) (v := ?_) (a' := ?_) #[true, true, true, true, true, true, true, false, false, false, false, false, false] rfl rfl (by kernel_rfl) (fun _ _ _ h => h) (Or.inl ⟨by rfl, ?_⟩) ?_ ?_
  rotate_left
  · intro w'
    go_simp
    with_reducible rfl
  rotate_left
  · simp only [Act.put, List.setIfInBounds_toArray, List.set_cons_zero, List.set_cons_succ, i64_w, i32_w]
    rfl
  refine one_ (i := 7) (N := (some 38)) #[true, true, true, true, true, true, true, true, false, false, false, false, false] rfl rfl (by kernel_rfl) (by decide) (fun K hK => ?_)
  refine goes_ Try.func138 (by kernel_rfl) rfl #[.slice As n cs, .int .i64 t, .func (.func 137) #[] #[]] (by rfl) rfl rfl (by first | (simp; done) | ((try simp only [List.map_toArray, List.map_cons, List.map_nil]); first | done | rfl)) ?_
  (with_reducible refine (HSE.out _ HBD.out).mono ?_)
  rintro e W5 ⟨rfl, hb5⟩
  refine ⟨_, rfl, ?_⟩
  have HB5 := Aside0.mk (below_step HBD.out hb5)
  clear hb5 HBD
  refine hK.out _ _ ⟨(blk_cell (blk_below HG4.out HB5.out) 1).trans rfl, (blk_cell (blk_below HX4.out HB5.out) 0).trans rfl⟩ (fun hHeld => ?_)
  clear hK K
  refine norm_ (a' := ?_) ?_ ?_
  rotate_left
  · show Act.put _ (some 38) _ = _
    simp only [Act.put, List.setIfInBounds_toArray, List.set_cons_zero, List.set_cons_succ, i64_w, i32_w]
    rfl
  refine pure_ (i := 8) (N := (some 30)) (v := ?_) (a' := ?_) #[true, true, true, true, true, true, true, true, true, false, false, false, false] rfl rfl (by kernel_rfl) (fun _ _ _ h => h) (Or.inl ⟨by rfl, ?_⟩) ?_ ?_
  rotate_left
  · intro w'
    go_simp
    with_reducible rfl
  rotate_left
  · simp only [Act.put, List.setIfInBounds_toArray, List.set_cons_zero, List.set_cons_succ, i64_w, i32_w]
    rfl
  refine pure_ (i := 9) (N := (some 39)) (v := ?_) (a' := ?_) #[true, true, true, true, true, true, true, true, true, true, false, false, false] rfl rfl (by kernel_rfl) (fun _ _ _ h => h) (Or.inl ⟨by rfl, ?_⟩) ?_ ?_
  rotate_left
  · intro w'
    go_simp
    with_reducible rfl
  rotate_left
  · simp only [Act.put, List.setIfInBounds_toArray, List.set_cons_zero, List.set_cons_succ, i64_w, i32_w]
    rfl
  refine pure_ (i := 10) (N := (some 40)) (v := ?_) (a' := ?_) #[true, true, true, true, true, true, true, true, true, true, true, false, false] rfl rfl (by kernel_rfl) (fun _ _ _ h => h) (Or.inl ⟨by rfl, ?_⟩) ?_ ?_
  rotate_left
  · intro w'
    go_simp
    with_reducible rfl
  rotate_left
  · simp only [Act.put, List.setIfInBounds_toArray, List.set_cons_zero, List.set_cons_succ, i64_w, i32_w]
    rfl
  refine pure_ (i := 11) (N := (some 9)) (v := ?_) (a' := ?_) #[true, true, true, true, true, true, true, true, true, true, true, true, false] rfl rfl (by kernel_rfl) (fun _ _ _ h => h) (Or.inl ⟨by rfl, ?_⟩) ?_ ?_
  rotate_left
  · intro w'
    go_simp
    with_reducible rfl
  rotate_left
  · simp only [Act.put, List.setIfInBounds_toArray, List.set_cons_zero, List.set_cons_succ, i64_w, i32_w]
    rfl
  refine pure_ (i := 12) (N := (some 10)) (v := ?_) (a' := ?_) #[true, true, true, true, true, true, true, true, true, true, true, true, true] rfl rfl (by kernel_rfl) (fun _ _ _ h => h) (Or.inl ⟨by rfl, ?_⟩) ?_ ?_
  rotate_left
  · intro w'
    go_simp
    with_reducible rfl
  rotate_left
  · simp only [Act.put, List.setIfInBounds_toArray, List.set_cons_zero, List.set_cons_succ, i64_w, i32_w]
    rfl
  refine done_ (by kernel_rfl) ?_
  go_upto_region 10 with fail
  have HG5 := Aside0.mk (blk_below HG4.out HB5.out)
  have HX5 := Aside0.mk (blk_below HX4.out HB5.out)
  have HS5 := Aside0.mk (Kd.R_below HS4.out HB5.out)
  have HNX := Aside0.mk (show some bx ≠ (Value.slice As n cs).ownBlock from fun h => by
    obtain ⟨inner, ho⟩ := Kd.R_own (HH.out.ent _ HE.out).sam
    have h1 := own_lt ho bx (by dsimp only; rw [← HAS.out, ← HN.out]; exact h.symm)
    have := HBX.out
    omega)
  have HEN := Aside0.mk (show some eg ≠ (Value.slice As n cs).ownBlock from fun h => by
    obtain ⟨cells, h1⟩ := Kd.R_typed HS5.out eg h.symm
    exact absurd (Hd.type_ne HG5.out h1) (by decide))
  have HBS := Aside0.mk (show base ≤ W5.heap.size from by
    have h1 := (HH.out.lt hb (.inl rfl))
    have h2 := HB4.out.size
    have h3 := HB5.out.size
    omega)
  have HPN := Aside0.mk (show p ≤ n by rw [HP.out, HN.out]; exact Hd.pos_le _ _)
  have HINS := Aside0.mk (fun (WE : World) (vb : Nat) (hr : k44.R 44 WE base (fun _ => True) (.slice As n cs) xs) (hv : WE.heap[vb]? = some (.cells #[.int .i64 t, .int .i64 v] 44 (0, 0))) (hne : some vb ≠ (Value.slice As n cs).ownBlock) (hb : W5.heap.size ≤ WE.heap.size) => by
    have h := Insert.calls base WE As cs xs p s vb (by rw [← HN.out]; exact hr) (by rw [← HT.out, ← HV.out]; exact hv) (by rw [← HN.out]; exact hne) (Nat.le_trans HBS.out hb) (by rw [← HN.out]; exact HPN.out) HLX.out
    rw [← HN.out] at h
    exact h)
  clear hHeld
  have HBD := Aside0.mk (below_drew1 (Below.refl W5.heap.size W5))
  refine start_ (n := 12) (S := fun w' => w'.cell? ⟨eg, 1, none⟩ = some (.slice As n cs) ∧ w'.cell? ⟨bx, 0, none⟩ = some (.int .i64 t) ∧ w'.cell? ⟨bx, 1, none⟩ = some (.int .i64 v)) (ds := [11]) #[false, false, false, false, false, false, false, false, false, false, false, false] (by kernel_rfl) rfl rfl ⟨(blk_cell HG5.out 1).trans rfl, (blk_cell HX5.out 0).trans rfl, (blk_cell HX5.out 1).trans rfl⟩ (fun hHeld => ?_)
  generalize W5.drew = WD at HBD hHeld ⊢
  refine pure_ (i := 0) (N := (some 49)) (v := ?_) (a' := ?_) #[true, false, false, false, false, false, false, false, false, false, false, false] rfl rfl (by kernel_rfl) (fun _ _ _ h => h) (Or.inl ⟨by rfl, ?_⟩) ?_ ?_
  rotate_left
  · intro w'
    go_simp
    with_reducible rfl
  rotate_left
  · simp only [Act.put, List.setIfInBounds_toArray, List.set_cons_zero, List.set_cons_succ, i64_w, i32_w]
    rfl
  refine pure_ (i := 1) (N := (some 50)) (v := ?_) (a' := ?_) #[true, true, false, false, false, false, false, false, false, false, false, false] rfl rfl (by kernel_rfl) (fun _ _ _ h => h) (Or.inl ⟨by rfl, ?_⟩) ?_ ?_
  rotate_left
  · intro w'
    go_simp
    with_reducible rfl
  rotate_left
  · simp only [Act.put, List.setIfInBounds_toArray, List.set_cons_zero, List.set_cons_succ, i64_w, i32_w]
    rfl
  refine pure_ (i := 2) (N := (some 51)) (v := ?_) (a' := ?_) #[true, true, true, false, false, false, false, false, false, false, false, false] rfl rfl (by kernel_rfl) (fun _ _ _ h => h) (Or.inl ⟨by rfl, ?_⟩) ?_ ?_
  rotate_left
  · intro w'
    go_simp
    with_reducible rfl
  rotate_left
  · simp only [Act.put, List.setIfInBounds_toArray, List.set_cons_zero, List.set_cons_succ, i64_w, i32_w]
    rfl
  refine pure_ (i := 3) (N := (some 52)) (v := ?_) (a' := ?_) #[true, true, true, true, false, false, false, false, false, false, false, false] rfl rfl (by kernel_rfl) (fun _ _ _ h => h) (Or.inl ⟨by rfl, ?_⟩) ?_ ?_
  rotate_left
  · intro w'
    go_simp
    with_reducible rfl
  rotate_left
  · simp only [Act.put, List.setIfInBounds_toArray, List.set_cons_zero, List.set_cons_succ, i64_w, i32_w]
    rfl
  refine take_ (i := 4) (N := (some 53)) (v := ?_) (a' := ?_) #[true, true, true, true, true, false, false, false, false, false, false, false] rfl rfl (by kernel_rfl) (fun _ _ _ h => h) (Or.inl ⟨by rfl, ?_⟩) hHeld ?_ ?_
  rotate_left
  · rintro w' ⟨s0, s1, s2⟩
    go_simp
    with_reducible rfl
  rotate_left
  · simp only [Act.put, List.setIfInBounds_toArray, List.set_cons_zero, List.set_cons_succ, i64_w, i32_w]
    rfl
  refine pure_ (i := 5) (N := (some 54)) (v := ?_) (a' := ?_) #[true, true, true, true, true, true, false, false, false, false, false, false] rfl rfl (by kernel_rfl) (fun _ _ _ h => h) (Or.inl ⟨by rfl, ?_⟩) ?_ ?_
  rotate_left
  · intro w'
    go_simp
    with_reducible rfl
  rotate_left
  · simp only [Act.put, List.setIfInBounds_toArray, List.set_cons_zero, List.set_cons_succ, i64_w, i32_w]
    rfl
  refine take_ (i := 6) (N := (some 55)) (v := ?_) (a' := ?_) #[true, true, true, true, true, true, true, false, false, false, false, false] rfl rfl (by kernel_rfl) (fun _ _ _ h => h) (Or.inl ⟨by rfl, ?_⟩) hHeld ?_ ?_
  rotate_left
  · rintro w' ⟨s0, s1, s2⟩
    go_simp
    with_reducible rfl
  rotate_left
  · simp only [Act.put, List.setIfInBounds_toArray, List.set_cons_zero, List.set_cons_succ, i64_w, i32_w]
    rfl
  refine one_ (i := 7) (N := (some 56)) #[true, true, true, true, true, true, true, true, false, false, false, false] rfl rfl (by kernel_rfl) (by decide) (fun K hK => ?_)
  refine event_step (w1 := WD.alloc (.cells #[.int .i64 t, .int .i64 v] 44)) (v := .slice (some ⟨WD.heap.size, 0, none⟩) 1 1) (by rfl) ?hr ?_
  (case hr => first | (go_simp; done) | (go_simp; rfl))
  obtain ⟨WE, hWE⟩ : ∃ W, W = WD.alloc (.cells #[.int .i64 t, .int .i64 v] 44) := ⟨_, rfl⟩
  obtain ⟨vb, hvb⟩ : ∃ g, g = WD.heap.size := ⟨_, rfl⟩
  have hbe : Below WD.heap.size WD WE := by rw [hWE]; exact below_alloc (Below.refl _ _) _
  have HVB := Aside0.mk (show WE.heap[vb]? = some (.cells #[.int .i64 t, .int .i64 v] 44 (0, 0)) by rw [hWE, hvb]; exact blk_new _ _)
  have HVN := Aside0.mk (show some vb ≠ (Value.slice As n cs).ownBlock from fun h => by
    obtain ⟨inner, ho⟩ := Kd.R_own HS5.out
    have h1 := own_lt ho vb h.symm
    have h2 := HBD.out.size
    omega)
  have HBE := Aside0.mk (below_step HBD.out hbe)
  rw [← hWE, ← hvb]
  clear hWE hvb hbe HBD
  refine hK.out _ _ ⟨(blk_cell (blk_below HG5.out HBE.out) 1).trans rfl, (blk_cell (blk_below HX5.out HBE.out) 0).trans rfl, (blk_cell (blk_below HX5.out HBE.out) 1).trans rfl⟩ (fun hHeld => ?_)
  clear hK K
  refine norm_ (a' := ?_) ?_ ?_
  rotate_left
  · show Act.put _ (some 56) _ = _
    simp only [Act.put, List.setIfInBounds_toArray, List.set_cons_zero, List.set_cons_succ, i64_w, i32_w]
    rfl
  refine one_ (i := 8) (N := (some 57)) #[true, true, true, true, true, true, true, true, true, false, false, false] rfl rfl (by kernel_rfl) (by decide) (fun K hK => ?_)
  refine goes_ Try.func139 (by kernel_rfl) rfl #[.slice As n cs, .int .i64 (p : Nat), .slice (some ⟨vb, 0, none⟩) 1 1] (by rfl) rfl rfl (by first | (simp; done) | ((try simp only [List.map_toArray, List.map_cons, List.map_nil]); first | done | rfl)) ?_
  (with_reducible refine (HINS.out WE vb (Kd.R_below HS5.out HBE.out) HVB.out HVN.out HBE.out.size).mono ?_)
  rintro e W6 ⟨v6, rfl, hr6, hg6, hat6⟩
  refine ⟨_, rfl, ?_⟩
  obtain ⟨A6, c6, e6⟩ := Kd.R_slice hr6
  subst e6
  obtain ⟨n6, hn6⟩ : ∃ n6, n6 = (xs.take p ++ s :: xs.drop p).length := ⟨_, rfl⟩
  rw [← hn6] at hr6 hat6 ⊢
  have HN6 := Aside0.mk hn6
  clear hn6
  have HR6 := Aside0.mk hr6
  have HGR6 := Aside0.mk hg6
  have HAT6 := Aside0.mk hat6
  have HG6 := Aside0.mk (blk_grown (blk_below HG5.out HBE.out) hg6 HEN.out)
  have HX6 := Aside0.mk (blk_grown (blk_below HX5.out HBE.out) hg6 HNX.out)
  clear hr6 hg6 hat6
  refine hK.out _ _ ⟨(blk_cell HG6.out 1).trans rfl, (blk_cell HX6.out 0).trans rfl, (blk_cell HX6.out 1).trans rfl⟩ (fun hHeld => ?_)
  clear hK K
  refine norm_ (a' := ?_) ?_ ?_
  rotate_left
  · show Act.put _ (some 57) _ = _
    simp only [Act.put, List.setIfInBounds_toArray, List.set_cons_zero, List.set_cons_succ, i64_w, i32_w]
    rfl
  refine pure_ (i := 9) (N := (some 58)) (v := ?_) (a' := ?_) #[true, true, true, true, true, true, true, true, true, true, false, false] rfl rfl (by kernel_rfl) (fun _ _ _ h => h) (Or.inl ⟨by rfl, ?_⟩) ?_ ?_
  rotate_left
  · intro w'
    go_simp
    with_reducible rfl
  rotate_left
  · simp only [Act.put, List.setIfInBounds_toArray, List.set_cons_zero, List.set_cons_succ, i64_w, i32_w]
    rfl
  refine pure_ (i := 10) (N := (some 59)) (v := ?_) (a' := ?_) #[true, true, true, true, true, true, true, true, true, true, true, false] rfl rfl (by kernel_rfl) (fun _ _ _ h => h) (Or.inl ⟨by rfl, ?_⟩) ?_ ?_
  rotate_left
  · intro w'
    go_simp
    with_reducible rfl
  rotate_left
  · simp only [Act.put, List.setIfInBounds_toArray, List.set_cons_zero, List.set_cons_succ, i64_w, i32_w]
    rfl
  refine last_ (i := 11) (N := none) #[true, true, true, true, true, true, true, true, true, true, true, true] rfl rfl (by kernel_rfl) (by decide) (fun K hK => ?_)
  have hz := blk_frozen HG6.out 1
  have hz4 : W6.cell? ⟨eg, 1, none⟩ = some (.slice As n cs) := (blk_cell HG6.out 1).trans rfl
  refine skip_ (w1 := ?_) (by rfl) rfl ?_ ?_
  rotate_left
  · go_simp
    rfl
  refine hK.out _ _ ?_
  clear hK K hz hz4
  refine done_ (by kernel_rfl) ?_
  go_upto_region 11 with fail
  refine cwp_world ?_
  intro W7 hW7
  have HH5 := Aside0.mk (HH4.out.below HB5.out)
  obtain ⟨ct, hct⟩ : ∃ ct : Nat, ct = Hd.cnt (Hd.abs S) := ⟨_, rfl⟩
  have hhd5 := HH5.out.head
  rw [← hct] at hhd5
  have hneh : some hb ≠ (Value.slice As n cs).ownBlock := fun h => by
    obtain ⟨cells, h1⟩ := Kd.R_typed HS5.out hb h.symm
    exact absurd (Hd.type_ne hhd5 h1) (by decide)
  have hhe : hb ≠ eg := by
    rintro rfl
    exact absurd (Hd.type_ne hhd5 HG5.out) (by decide)
  have hhd6 := blk_grown (blk_below hhd5 HBE.out) HGR6.out hneh
  have HHD7 := Aside0.mk (show W7.heap[hb]? = some (.cells #[.int .i64 win, .map (some mb), .int .i64 (ct : Nat)] 115 (0, 0)) by rw [hW7]; exact blk_far hhd6 (p := ⟨eg, 1, none⟩) hhe _)
  have HG7 := Aside0.mk (show W7.heap[eg]? = some (.cells #[elv, .slice A6 n6 c6] 120 (0, 0)) by rw [hW7]; exact blk_put HG6.out 1 _ rfl)
  have hn6e : ∀ k, (Value.slice A6 n6 c6).ownBlock = some k → k ≠ eg ∧ k ≠ hb := fun k hk => by
    obtain ⟨cells, h1⟩ := Kd.R_typed HR6.out k hk
    constructor
    · rintro rfl
      exact absurd (Hd.type_ne HG6.out h1) (by decide)
    · rintro rfl
      exact absurd (Hd.type_ne hhd6 h1) (by decide)
  have HR7 := Aside0.mk (show k44.R 44 W7 base (fun _ => True) (.slice A6 n6 c6) (xs.take p ++ s :: xs.drop p) by
    rw [hW7]
    exact Hd.R44_move HR6.out (fun k hk => Below.heap_setCell _ ⟨eg, 1, none⟩ _ k (hn6e k hk).1))
  have HK7 := Aside0.mk (show ∀ k, k < W5.heap.size → k ≠ eg → (Value.slice As n cs).ownBlock ≠ some k → W7.heap[k]? = W5.heap[k]? by
    intro k hk h1 h2
    rw [hW7]
    exact (Below.heap_setCell _ ⟨eg, 1, none⟩ _ k h1).trans ((HGR6.out.block k (Nat.lt_of_lt_of_le hk HBE.out.size) (fun h => h2 h.symm)).trans (HBE.out.block k hk)))
  have HO7 := Aside0.mk (show W7.os = W5.os ∧ W7.tape = W5.tape ∧ W7.output = W5.output ∧ W5.heap.size ≤ W7.heap.size by
    rw [hW7]
    exact ⟨HGR6.out.os.trans HBE.out.os, HGR6.out.tape.trans HBE.out.tape, HGR6.out.output.trans HBE.out.output, Nat.le_trans (Nat.le_trans HBE.out.size HGR6.out.size) (Nat.le_of_eq (by simp [World.setCell]))⟩)
  have HN6E := Aside0.mk hn6e
  have HHE := Aside0.mk hhe
  have q0 : W7.cell? ⟨hb, 2, none⟩ = some (.int .i64 (ct : Nat)) := (blk_cell HHD7.out 2).trans rfl
  have q1 := blk_frozen HHD7.out 2
  have HCTE := Aside0.mk hct
  have hctb : ct ≤ 1099511627776 := by rw [hct]; exact HCT.out
  clear hW7 hct hhd5 hhd6 hneh hhe hn6e hHeld HG6 HX6 HX5 HVB HVN HNX HEN HINS HSE
  go_wp2_with fail
  go_end0
  have hfd : Hd.find (Hd.abs S) els = some xs := Hd.find_ent_some HH5.out.ok.sorted HE.out
  have hxs : Hd.putS xs s = xs.take p ++ s :: xs.drop p := by rw [HP.out, HT.out]; exact Hd.putS_new HTH.out
  have hput : Hd.putL (Hd.abs S) m s = Hd.setA (Hd.abs S) els (xs.take p ++ s :: xs.drop p) := by
    unfold Hd.putL
    rw [← HEL.out, hfd]
    show Hd.setA (Hd.abs S) els (Hd.putS xs s) = _
    rw [hxs]
  have hcnt : Hd.cnt (Hd.setA (Hd.abs S) els (xs.take p ++ s :: xs.drop p)) = ct + 1 := by
    have := Hd.cnt_setA (L := Hd.abs S) (m := els) (xs := xs.take p ++ s :: xs.drop p) HH5.out.ok.sorted
    rw [hfd] at this
    simp only [Option.getD_some, List.length_append, List.length_cons, List.length_take, List.length_drop] at this
    have h1 := HPN.out
    have h2 := HN.out
    have h3 := HCTE.out
    omega
  have hfar : ∀ k, k ≠ hb → (W7.setCell ⟨hb, 2, none⟩ (.int .i64 ((ct : Int) + 1))).heap[k]? = W7.heap[k]? := fun k hk => Below.heap_setCell _ ⟨hb, 2, none⟩ _ k hk
  have hbw : Below W.heap.size W W5 := below_step HB4.out HB5.out
  refine ⟨rfl, Hd.setE S ⟨els, xs.take p ++ s :: xs.drop p, eg, elv, .slice A6 n6 c6⟩, ?_, ?_, ?_⟩
  · refine HH5.out.update (W' := W7.setCell ⟨hb, 2, none⟩ (.int .i64 ((ct : Int) + 1))) HE.out ((hfar eg (Ne.symm HHE.out)).trans HG7.out) (Hd.R44_move HR7.out (fun k hk => hfar k (HN6E.out k hk).2)) ?_ ?_ ?_ ?_
    · rcases HAT6.out with h1 | ⟨b, h1, h2⟩
      · left
        rw [h1, HAS.out]
        rfl
      · exact .inr ⟨b, h1, Nat.le_trans HBE.out.size h2⟩
    · have h9 : (W7.setCell ⟨hb, 2, none⟩ (.int .i64 ((ct : Int) + 1))).heap[hb]? = some (.cells #[.int .i64 win, .map (some mb), .int .i64 ((ct + 1 : Nat) : Int)] 115 (0, 0)) := blk_put HHD7.out 2 _ rfl
      rw [← hcnt] at h9
      exact h9
    · intro k hk h1 h2 h3
      refine (hfar k h2).trans (HK7.out k (HH5.out.lt k hk).2 h1 ?_)
      rw [HAS.out]
      exact h3
    · rw [← hput]
      exact HOK.out
  · rw [Hd.abs_setE]
    exact hput.symm
  · refine ⟨HO7.out.1.trans hbw.os, HO7.out.2.1.trans hbw.tape, HO7.out.2.2.1.trans hbw.output, Nat.le_trans hbw.size (Nat.le_trans HO7.out.2.2.2 (Nat.le_of_eq (by simp [World.setCell]))), fun k hk hn => ?_, fun k hk => ?_⟩
    · refine (hfar k (fun h => hn (.inl (.inl h)))).trans ((HK7.out k (Nat.lt_of_lt_of_le hk hbw.size) (fun h => hn (.inl (.inr (.inr ⟨_, HE.out, .inl h⟩)))) (fun h => hn (.inl (.inr (.inr ⟨_, HE.out, .inr (.inr ?_)⟩))))).trans (hbw.block k hk))
      rw [HAS.out] at h
      exact h
    · rcases hk with h1 | h1 | ⟨x, hx, h1⟩
      · exact .inl (.inl (.inl h1))
      · exact .inl (.inl (.inr (.inl h1)))
      · rcases Hd.setE_mem (Hd.esorted_of HH5.out.ok.sorted) hx with rfl | ⟨hx, _⟩
        · rcases h1 with h1 | h1 | h1
          · exact .inl (.inl (.inr (.inr ⟨_, HE.out, .inl h1⟩)))
          · exact .inl (.inl (.inr (.inr ⟨_, HE.out, .inr (.inl h1)⟩)))
          · rcases HAT6.out with h2 | ⟨b, h2, h3⟩
            · have h4 : (Value.slice As n cs).ownBlock = some k := h2.symm.trans h1
              rw [HAS.out] at h4
              exact .inl (.inl (.inr (.inr ⟨_, HE.out, .inr (.inr h4)⟩)))
            · have h4 : some b = some k := h2.symm.trans h1
              injection h4 with h4
              have := hbw.size
              have := HBE.out.size
              exact .inr (by omega)
        · exact .inl (.inl (.inr (.inr ⟨x, hx, h1⟩)))
end
end Go.Proofs.Ytcgocdhffcnleaa.PHead
