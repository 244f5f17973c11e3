/- A part of the proofs about the head: see the theorems' own lines. -/
import Derived.Test.YtcgocdhffcnleaaXHdO
import Derived.Lib.Overlaps
import Derived.Laws.CopyOwn
import Derived.Laws.IdiomCopy
import Derived.Lib.AppendZeros
import Derived.StillTailTactics
import Derived.Outline
namespace Go.Proofs.Ytcgocdhffcnleaa.PHead
open Go Go.RowKit Go.Proofs.YtcgocdhffcnleaaW.PrintWords Go.Proofs.YtcgocdhffcnleaaW.PrintLast Go.Proofs.YtcgocdhffcnleaaW.PrintMore Go.Proofs.Ytcgocdhffcnleaa.XB Go.Proofs.Ytcgocdhffcnleaa.PHeadPlays Go.Proofs.Ytcgocdhffcnleaa.XH
set_option linter.unusedVariables false
set_option linter.unusedSimpArgs false
section
open Go.Maps
theorem Hd.map_uniq {W : World} {b n n' : Nat} {D D' : DataW Unit} (h : W.ownsMap Try.prog 9 Hd.RP b n D) (h' : W.ownsMap Try.prog 9 Hd.RP b n' D') : D = D' := by
  obtain ⟨es, ck, h1, _, _, rfl⟩ := h
  obtain ⟨es', ck', h1', _, _, rfl⟩ := h'
  rw [h1] at h1'
  injection h1' with h1'
  injection h1' with h1' _
  rw [h1']
set_option maxHeartbeats 8000000 in
set_option maxRecDepth 100000 in
theorem head_put.fresh (base hb mb : Nat) (win : Int) (S : List Hd.Ent) (Am : Option Addr) (cm : Nat) (m : List S53) (s : S44) (W : World) (hH : Hd.HR base hb mb win S W) (hm : Hl.made m) (hR : k53.R 53 W base (fun _ => True) (.slice Am m.length cm) m)
    (hok : Hd.Ok (Hd.putL (Hd.abs S) m s)) (hf : Hd.find (Hd.abs S) m = none) (hct : Hd.cnt (Hd.abs S) ≤ 1099511627776) :
    Calls Try.prog 115 #[.pointer (some ⟨hb, 0, none⟩), .slice Am m.length cm, .agg #[.int .i64 s.f0, .int .i64 s.f1]] W fun e' w' => head_put.Post base hb mb win S m (.slice Am m.length cm) s W e' w' := by
  have HH := Aside0.mk hH
  have HTX := Aside0.mk (fun W' (hb : Below W.heap.size W W') => labels_Text.calls Am cm m W' (Kd.C_below (Kd.R_reads' hR).2.2 hb) (Kd.R_reads' hR).2.1)
  have HM := Aside0.mk hm
  have HKY := Aside0.mk (Hd.keyOf_txt hm)
  have HF := Aside0.mk hf
  have HOK := Aside0.mk hok
  have HLR := Aside0.mk hR
  have HCT := Aside0.mk hct
  obtain ⟨ml, hml⟩ : ∃ ml, ml = m.length := ⟨_, rfl⟩
  obtain ⟨t, ht⟩ : ∃ t, t = s.f0 := ⟨_, rfl⟩
  obtain ⟨v, hv⟩ : ∃ v, v = s.f1 := ⟨_, rfl⟩
  have HT := Aside0.mk ht
  have HV := Aside0.mk hv
  have HML := Aside0.mk hml
  rw [← hml] at HTX HLR
  rw [← hml, ← ht, ← hv]
  clear hH hm hR hok hf hct hml ht hv
  go_enter Try.func115, Try.ntmps115
  go_upto_region 1 with fail
  refine cwp_world ?_
  intro W1 hW1
  obtain ⟨bx, hbx⟩ : ∃ g, g = W.heap.size := ⟨_, rfl⟩
  have HX1 := Aside0.mk (show W1.heap[bx]? = some (.cells #[.int .i64 t, .int .i64 v] 44 (0, 0)) by rw [hW1, hbx]; exact blk_new _ _)
  have hb1 : Below W.heap.size W W1 := by rw [hW1]; exact below_alloc (Below.refl _ _) _
  have HB1 := Aside0.mk hb1
  have HT1 := Aside0.mk (HTX.out W1 hb1)
  have HBX := Aside0.mk hbx
  rw [← hbx]
  clear hW1 hbx hb1 HTX
  go_upto_region 2 with (go_at_call 62; (with_reducible refine HT1.out.mono ?_); rintro e2 W2 ⟨rfl, hb2⟩; have HX2 := Aside0.mk (blk_below HX1.out hb2); have HB2 := Aside0.mk (below_step HB1.out hb2); clear hb2)
  have HH2 := Aside0.mk (HH.out.below HB2.out)
  have hlook := HH2.out.look_miss HKY.out (Hd.miss_keys HH2.out HM.out HF.out)
  have b1 := (blk_cell HH2.out.head 1).trans (show (#[.int .i64 win, .map (some mb), .int .i64 (Hd.cnt (Hd.abs S) : Nat)] : Array Value)[1]? = some (.map (some mb)) from rfl)
  clear HT1 HX1 HB1
  go_upto_region 5 with fail
  refine cwp_world ?_
  intro W3 hW3
  obtain ⟨eg, heg⟩ : ∃ g, g = W2.heap.size := ⟨_, rfl⟩
  have hb3 : Below W2.heap.size W2 W3 := by rw [hW3]; exact below_alloc (Below.refl _ _) _
  have HG3 := Aside0.mk (show W3.heap[eg]? = some (.cells #[.slice Am ml cm, .slice none 0 0] 120 (0, 0)) by rw [hW3, heg]; exact blk_new _ _)
  have HB3 := Aside0.mk hb3
  have HEG := Aside0.mk heg
  have HH3 := Aside0.mk (HH2.out.below hb3)
  have b3 := (blk_cell HH3.out.head 1).trans (show (#[.int .i64 win, .map (some mb), .int .i64 (Hd.cnt (Hd.abs S) : Nat)] : Array Value)[1]? = some (.map (some mb)) from rfl)
  obtain ⟨D, hD, hDI⟩ := HH3.out.map
  have HD := Aside0.mk hD
  have HLS := Aside0.mk (show S.length ≤ 1000 from by
    have h1 := HH3.out.ok.len
    unfold Hd.abs at h1
    rw [List.length_map] at h1
    exact h1)
  rw [← heg]
  clear hW3 heg hb3 hlook b1 hD hDI
  go_upto_region 6 with (at_mapUpdate; refine wpList_mapUpdate_own _ rfl _ _ _ 113 rfl 9 117 Hd.law9 Try.underlying113 Hd.RP mb S.length D rfl HD.out (by have := HLS.out; unfold maxLen; omega) _ _ _ rfl rfl HKY.out _ [] (Hd.RP_ptr eg) ?_; intro W4 hown4 hg4; have HOW4 := Aside0.mk hown4; have HGW4 := Aside0.mk hg4; clear hown4 hg4)
  have hmt : ∀ (cs : Array Value) (t : TypeId), W3.heap[mb]? ≠ some (.cells cs t (0, 0)) := by
    intro cs t h2
    obtain ⟨es, ck, hb1, _⟩ := HD.out
    rw [hb1] at h2
    cases h2
  have HG4 := Aside0.mk (blk_grown HG3.out HGW4.out (fun h => hmt _ _ (by have := HG3.out; rw [show eg = mb from Option.some.inj h] at this; exact this)))
  have hx3 := blk_below HX2.out HB3.out
  have HX4 := Aside0.mk (blk_grown hx3 HGW4.out (fun h => hmt _ _ (by rw [show bx = mb from Option.some.inj h] at hx3; exact hx3)))
  have HHD4 := Aside0.mk (blk_grown HH3.out.head HGW4.out (fun h => hmt _ _ (by have := HH3.out.head; rw [show hb = mb from Option.some.inj h] at this; exact this)))
  obtain ⟨xs, hxs⟩ : ∃ xs : List S44, xs = [] := ⟨_, rfl⟩
  obtain ⟨n, hn⟩ : ∃ n, n = xs.length := ⟨_, rfl⟩
  obtain ⟨As, hAs⟩ : ∃ As : Option Addr, As = none := ⟨_, rfl⟩
  obtain ⟨cs, hcs⟩ : ∃ cs, cs = 0 := ⟨_, rfl⟩
  have hn0 : n = 0 := by rw [hn, hxs]; rfl
  have HS4 := Aside0.mk (show k44.R 44 W4 base (fun _ => True) (.slice As n cs) xs by rw [hAs, hn0, hcs, hxs]; exact Kd.R_nil _ _ _ _ _)
  rw [show (Value.slice none 0 0) = .slice As n cs by rw [hAs, hn0, hcs]] at HG4
  have HXS := Aside0.mk hxs
  have HN := Aside0.mk hn
  have HAS := Aside0.mk hAs
  have HSE := Aside0.mk (fun W (hb : Below W4.heap.size W4 W) => by
    have h1 := Kd.C_below (Kd.R_reads' HS4.out).2.2 hb
    have h2 := head_search.calls As cs xs t W h1 (by rw [HXS.out]; exact List.Pairwise.nil) (by rw [HXS.out]; simp)
    rw [← hn] at h2
    exact h2)
  obtain ⟨p, hp⟩ : ∃ p, p = Hd.pos xs t := ⟨_, rfl⟩
  have HP := Aside0.mk hp
  have HTHT := Aside0.mk (show Hd.there xs t = false by rw [HXS.out]; rfl)
  rw [← hp, HTHT.out] at HSE
  have HMT := Aside0.mk hmt
  clear hmt hx3 hxs hn hAs hcs hn0 hp
  go_upto_region 7 with fail
  have HBD := Aside0.mk (below_drew1 (Below.refl W4.heap.size W4))
  refine start_ (n := 13) (S := fun w' => w'.cell? ⟨eg, 1, none⟩ = some (.slice As n cs) ∧ w'.cell? ⟨bx, 0, none⟩ = some (.int .i64 t)) (ds := []) #[false, false, false, false, false, false, false, false, false, false, false, false, false] (by kernel_rfl) rfl rfl ⟨(blk_cell HG4.out 1).trans rfl, (blk_cell HX4.out 0).trans rfl⟩ (fun hHeld => ?_)
  generalize W4.drew = WD at HBD hHeld ⊢
  refine pure_ (i := 0) (N := (some 31)) (v := ?_) (a' := ?_) #[true, false, false, false, false, false, false, false, false, false, false, false, false] rfl rfl (by kernel_rfl) (fun _ _ _ h => h) (Or.inl ⟨by rfl, ?_⟩) ?_ ?_
  rotate_left
  · intro w'
    go_simp
    with_reducible rfl
  rotate_left
  · simp only [Act.put, List.setIfInBounds_toArray, List.set_cons_zero, List.set_cons_succ, i64_w, i32_w]
    rfl
  refine pure_ (i := 1) (N := (some 32)) (v := ?_) (a' := ?_) #[true, true, false, false, false, false, false, false, false, false, false, false, false] rfl rfl (by kernel_rfl) (fun _ _ _ h => h) (Or.inl ⟨by rfl, ?_⟩) ?_ ?_
  rotate_left
  · intro w'
    go_simp
    with_reducible rfl
  rotate_left
  · simp only [Act.put, List.setIfInBounds_toArray, List.set_cons_zero, List.set_cons_succ, i64_w, i32_w]
    rfl
  refine pure_ (i := 2) (N := (some 33)) (v := ?_) (a' := ?_) #[true, true, true, false, false, false, false, false, false, false, false, false, false] rfl rfl (by kernel_rfl) (fun _ _ _ h => h) (Or.inl ⟨by rfl, ?_⟩) ?_ ?_
  rotate_left
  · intro w'
    go_simp
    with_reducible rfl
  rotate_left
  · simp only [Act.put, List.setIfInBounds_toArray, List.set_cons_zero, List.set_cons_succ, i64_w, i32_w]
    rfl
  refine take_ (i := 3) (N := (some 34)) (v := ?_) (a' := ?_) #[true, true, true, true, false, false, false, false, false, false, false, false, false] rfl rfl (by kernel_rfl) (fun _ _ _ h => h) (Or.inl ⟨by rfl, ?_⟩) hHeld ?_ ?_
  rotate_left
  · rintro w' ⟨s0, s1⟩
    go_simp
    with_reducible rfl
  rotate_left
  · simp only [Act.put, List.setIfInBounds_toArray, List.set_cons_zero, List.set_cons_succ, i64_w, i32_w]
    rfl
  refine pure_ (i := 4) (N := (some 35)) (v := ?_) (a' := ?_) #[true, true, true, true, true, false, false, false, false, false, false, false, false] rfl rfl (by kernel_rfl) (fun _ _ _ h => h) (Or.inl ⟨by rfl, ?_⟩) ?_ ?_
  rotate_left
  · intro w'
    go_simp
    with_reducible rfl
  rotate_left
  · simp only [Act.put, List.setIfInBounds_toArray, List.set_cons_zero, List.set_cons_succ, i64_w, i32_w]
    rfl
  refine take_ (i := 5) (N := (some 36)) (v := ?_) (a' := ?_) #[true, true, true, true, true, true, false, false, false, false, false, false, false] rfl rfl (by kernel_rfl) (fun _ _ _ h => h) (Or.inl ⟨by rfl, ?_⟩) hHeld ?_ ?_
  rotate_left
  · rintro w' ⟨s0, s1⟩
    go_simp
    with_reducible rfl
  rotate_left
  · simp only [Act.put, List.setIfInBounds_toArray, List.set_cons_zero, List.set_cons_succ, i64_w, i32_w]
    rfl
  refine pure_ (i := 6) (N := (some 37)) (v := ?_) (a' := ?_) #[true, true, true, true, true, true, true, false, false, false, false, false, false] rfl rfl (by kernel_rfl) (fun _ _ _ h => h) (Or.inl ⟨by rfl, ?_⟩) ?_ ?_
  rotate_left
  · intro w'
    go_simp
    with_reducible rfl
  rotate_left
  · simp only [Act.put, List.setIfInBounds_toArray, List.set_cons_zero, List.set_cons_succ, i64_w, i32_w]
    rfl
  refine one_ (i := 7) (N := (some 38)) #[true, true, true, true, true, true, true, true, false, false, false, false, false] rfl rfl (by kernel_rfl) (by decide) (fun K hK => ?_)
  refine goes_ Try.func138 (by kernel_rfl) rfl #[.slice As n cs, .int .i64 t, .func (.func 137) #[] #[]] (by rfl) rfl rfl (by first | (simp; done) | ((try simp only [List.map_toArray, List.map_cons, List.map_nil]); first | done | rfl)) ?_
  (with_reducible refine (HSE.out _ HBD.out).mono ?_)
  rintro e W5 ⟨rfl, hb5⟩
  refine ⟨_, rfl, ?_⟩
  have HB5 := Aside0.mk (below_step HBD.out hb5)
  clear hb5 HBD
  refine hK.out _ _ ⟨(blk_cell (blk_below HG4.out HB5.out) 1).trans rfl, (blk_cell (blk_below HX4.out HB5.out) 0).trans rfl⟩ (fun hHeld => ?_)
  clear hK K
  refine norm_ (a' := ?_) ?_ ?_
  rotate_left
  · show Act.put _ (some 38) _ = _
    simp only [Act.put, List.setIfInBounds_toArray, List.set_cons_zero, List.set_cons_succ, i64_w, i32_w]
    rfl
  refine pure_ (i := 8) (N := (some 30)) (v := ?_) (a' := ?_) #[true, true, true, true, true, true, true, true, true, false, false, false, false] rfl rfl (by kernel_rfl) (fun _ _ _ h => h) (Or.inl ⟨by rfl, ?_⟩) ?_ ?_
  rotate_left
  · intro w'
    go_simp
    with_reducible rfl
  rotate_left
  · simp only [Act.put, List.setIfInBounds_toArray, List.set_cons_zero, List.set_cons_succ, i64_w, i32_w]
    rfl
  refine pure_ (i := 9) (N := (some 39)) (v := ?_) (a' := ?_) #[true, true, true, true, true, true, true, true, true, true, false, false, false] rfl rfl (by kernel_rfl) (fun _ _ _ h => h) (Or.inl ⟨by rfl, ?_⟩) ?_ ?_
  rotate_left
  · intro w'
    go_simp
    with_reducible rfl
  rotate_left
  · simp only [Act.put, List.setIfInBounds_toArray, List.set_cons_zero, List.set_cons_succ, i64_w, i32_w]
    rfl
  refine pure_ (i := 10) (N := (some 40)) (v := ?_) (a' := ?_) #[true, true, true, true, true, true, true, true, true, true, true, false, false] rfl rfl (by kernel_rfl) (fun _ _ _ h => h) (Or.inl ⟨by rfl, ?_⟩) ?_ ?_
  rotate_left
  · intro w'
    go_simp
    with_reducible rfl
  rotate_left
  · simp only [Act.put, List.setIfInBounds_toArray, List.set_cons_zero, List.set_cons_succ, i64_w, i32_w]
    rfl
  refine pure_ (i := 11) (N := (some 9)) (v := ?_) (a' := ?_) #[true, true, true, true, true, true, true, true, true, true, true, true, false] rfl rfl (by kernel_rfl) (fun _ _ _ h => h) (Or.inl ⟨by rfl, ?_⟩) ?_ ?_
  rotate_left
  · intro w'
    go_simp
    with_reducible rfl
  rotate_left
  · simp only [Act.put, List.setIfInBounds_toArray, List.set_cons_zero, List.set_cons_succ, i64_w, i32_w]
    rfl
  refine pure_ (i := 12) (N := (some 10)) (v := ?_) (a' := ?_) #[true, true, true, true, true, true, true, true, true, true, true, true, true] rfl rfl (by kernel_rfl) (fun _ _ _ h => h) (Or.inl ⟨by rfl, ?_⟩) ?_ ?_
  rotate_left
  · intro w'
    go_simp
    with_reducible rfl
  rotate_left
  · simp only [Act.put, List.setIfInBounds_toArray, List.set_cons_zero, List.set_cons_succ, i64_w, i32_w]
    rfl
  refine done_ (by kernel_rfl) ?_
  go_upto_region 10 with fail
  have HG5 := Aside0.mk (blk_below HG4.out HB5.out)
  have HX5 := Aside0.mk (blk_below HX4.out HB5.out)
  have HS5 := Aside0.mk (Kd.R_below HS4.out HB5.out)
  have HNX := Aside0.mk (show some bx ≠ (Value.slice As n cs).ownBlock from fun h => by rw [HAS.out] at h; cases h)
  have HEN := Aside0.mk (show some eg ≠ (Value.slice As n cs).ownBlock from fun h => by rw [HAS.out] at h; cases h)
  have HBS := Aside0.mk (show base ≤ W5.heap.size from by
    have h1 := (HH3.out.lt hb (.inl rfl))
    have h2 := HGW4.out.size
    have h3 := HB5.out.size
    omega)
  have HPN := Aside0.mk (show p ≤ n by rw [HP.out, HN.out]; exact Hd.pos_le _ _)
  have HINS := Aside0.mk (fun (WE : World) (vb : Nat) (hr : k44.R 44 WE base (fun _ => True) (.slice As n cs) xs) (hv : WE.heap[vb]? = some (.cells #[.int .i64 t, .int .i64 v] 44 (0, 0))) (hne : some vb ≠ (Value.slice As n cs).ownBlock) (hb : W5.heap.size ≤ WE.heap.size) => by
    have h := Insert.calls base WE As cs xs p s vb (by rw [← HN.out]; exact hr) (by rw [← HT.out, ← HV.out]; exact hv) (by rw [← HN.out]; exact hne) (Nat.le_trans HBS.out hb) (by rw [← HN.out]; exact HPN.out) (by rw [HXS.out]; simp)
    rw [← HN.out] at h
    exact h)
  clear hHeld
  have HBD := Aside0.mk (below_drew1 (Below.refl W5.heap.size W5))
  refine start_ (n := 12) (S := fun w' => w'.cell? ⟨eg, 1, none⟩ = some (.slice As n cs) ∧ w'.cell? ⟨bx, 0, none⟩ = some (.int .i64 t) ∧ w'.cell? ⟨bx, 1, none⟩ = some (.int .i64 v)) (ds := [11]) #[false, false, false, false, false, false, false, false, false, false, false, false] (by kernel_rfl) rfl rfl ⟨(blk_cell HG5.out 1).trans rfl, (blk_cell HX5.out 0).trans rfl, (blk_cell HX5.out 1).trans rfl⟩ (fun hHeld => ?_)
  generalize W5.drew = WD at HBD hHeld ⊢
  refine pure_ (i := 0) (N := (some 49)) (v := ?_) (a' := ?_) #[true, false, false, false, false, false, false, false, false, false, false, false] rfl rfl (by kernel_rfl) (fun _ _ _ h => h) (Or.inl ⟨by rfl, ?_⟩) ?_ ?_
  rotate_left
  · intro w'
    go_simp
    with_reducible rfl
  rotate_left
  · simp only [Act.put, List.setIfInBounds_toArray, List.set_cons_zero, List.set_cons_succ, i64_w, i32_w]
    rfl
  refine pure_ (i := 1) (N := (some 50)) (v := ?_) (a' := ?_) #[true, true, false, false, false, false, false, false, false, false, false, false] rfl rfl (by kernel_rfl) (fun _ _ _ h => h) (Or.inl ⟨by rfl, ?_⟩) ?_ ?_
  rotate_left
  · intro w'
    go_simp
    with_reducible rfl
  rotate_left
  · simp only [Act.put, List.setIfInBounds_toArray, List.set_cons_zero, List.set_cons_succ, i64_w, i32_w]
    rfl
  refine pure_ (i := 2) (N := (some 51)) (v := ?_) (a' := ?_) #[true, true, true, false, false, false, false, false, false, false, false, false] rfl rfl (by kernel_rfl) (fun _ _ _ h => h) (Or.inl ⟨by rfl, ?_⟩) ?_ ?_
  rotate_left
  · intro w'
    go_simp
    with_reducible rfl
  rotate_left
  · simp only [Act.put, List.setIfInBounds_toArray, List.set_cons_zero, List.set_cons_succ, i64_w, i32_w]
    rfl
  refine pure_ (i := 3) (N := (some 52)) (v := ?_) (a' := ?_) #[true, true, true, true, false, false, false, false, false, false, false, false] rfl rfl (by kernel_rfl) (fun _ _ _ h => h) (Or.inl ⟨by rfl, ?_⟩) ?_ ?_
  rotate_left
  · intro w'
    go_simp
    with_reducible rfl
  rotate_left
  · simp only [Act.put, List.setIfInBounds_toArray, List.set_cons_zero, List.set_cons_succ, i64_w, i32_w]
    rfl
  refine take_ (i := 4) (N := (some 53)) (v := ?_) (a' := ?_) #[true, true, true, true, true, false, false, false, false, false, false, false] rfl rfl (by kernel_rfl) (fun _ _ _ h => h) (Or.inl ⟨by rfl, ?_⟩) hHeld ?_ ?_
  rotate_left
  · rintro w' ⟨s0, s1, s2⟩
    go_simp
    with_reducible rfl
  rotate_left
  · simp only [Act.put, List.setIfInBounds_toArray, List.set_cons_zero, List.set_cons_succ, i64_w, i32_w]
    rfl
  refine pure_ (i := 5) (N := (some 54)) (v := ?_) (a' := ?_) #[true, true, true, true, true, true, false, false, false, false, false, false] rfl rfl (by kernel_rfl) (fun _ _ _ h => h) (Or.inl ⟨by rfl, ?_⟩) ?_ ?_
  rotate_left
  · intro w'
    go_simp
    with_reducible rfl
  rotate_left
  · simp only [Act.put, List.setIfInBounds_toArray, List.set_cons_zero, List.set_cons_succ, i64_w, i32_w]
    rfl
  refine take_ (i := 6) (N := (some 55)) (v := ?_) (a' := ?_) #[true, true, true, true, true, true, true, false, false, false, false, false] rfl rfl (by kernel_rfl) (fun _ _ _ h => h) (Or.inl ⟨by rfl, ?_⟩) hHeld ?_ ?_
  rotate_left
  · rintro w' ⟨s0, s1, s2⟩
    go_simp
    with_reducible rfl
  rotate_left
  · simp only [Act.put, List.setIfInBounds_toArray, List.set_cons_zero, List.set_cons_succ, i64_w, i32_w]
    rfl
  refine one_ (i := 7) (N := (some 56)) #[true, true, true, true, true, true, true, true, false, false, false, false] rfl rfl (by kernel_rfl) (by decide) (fun K hK => ?_)
  refine event_step (w1 := WD.alloc (.cells #[.int .i64 t, .int .i64 v] 44)) (v := .slice (some ⟨WD.heap.size, 0, none⟩) 1 1) (by rfl) ?hr ?_
  (case hr => first | (go_simp; done) | (go_simp; rfl))
  obtain ⟨WE, hWE⟩ : ∃ W, W = WD.alloc (.cells #[.int .i64 t, .int .i64 v] 44) := ⟨_, rfl⟩
  obtain ⟨vb, hvb⟩ : ∃ g, g = WD.heap.size := ⟨_, rfl⟩
  have hbe : Below WD.heap.size WD WE := by rw [hWE]; exact below_alloc (Below.refl _ _) _
  have HVB := Aside0.mk (show WE.heap[vb]? = some (.cells #[.int .i64 t, .int .i64 v] 44 (0, 0)) by rw [hWE, hvb]; exact blk_new _ _)
  have HVN := Aside0.mk (show some vb ≠ (Value.slice As n cs).ownBlock from fun h => by
    obtain ⟨inner, ho⟩ := Kd.R_own HS5.out
    have h1 := own_lt ho vb h.symm
    have h2 := HBD.out.size
    omega)
  have HBE := Aside0.mk (below_step HBD.out hbe)
  rw [← hWE, ← hvb]
  clear hWE hvb hbe HBD
  refine hK.out _ _ ⟨(blk_cell (blk_below HG5.out HBE.out) 1).trans rfl, (blk_cell (blk_below HX5.out HBE.out) 0).trans rfl, (blk_cell (blk_below HX5.out HBE.out) 1).trans rfl⟩ (fun hHeld => ?_)
  clear hK K
  refine norm_ (a' := ?_) ?_ ?_
  rotate_left
  · show Act.put _ (some 56) _ = _
    simp only [Act.put, List.setIfInBounds_toArray, List.set_cons_zero, List.set_cons_succ, i64_w, i32_w]
    rfl
  refine one_ (i := 8) (N := (some 57)) #[true, true, true, true, true, true, true, true, true, false, false, false] rfl rfl (by kernel_rfl) (by decide) (fun K hK => ?_)
  refine goes_ Try.func139 (by kernel_rfl) rfl #[.slice As n cs, .int .i64 (p : Nat), .slice (some ⟨vb, 0, none⟩) 1 1] (by rfl) rfl rfl (by first | (simp; done) | ((try simp only [List.map_toArray, List.map_cons, List.map_nil]); first | done | rfl)) ?_
  (with_reducible refine (HINS.out WE vb (Kd.R_below HS5.out HBE.out) HVB.out HVN.out HBE.out.size).mono ?_)
  rintro e W6 ⟨v6, rfl, hr6, hg6, hat6⟩
  refine ⟨_, rfl, ?_⟩
  obtain ⟨A6, c6, e6⟩ := Kd.R_slice hr6
  subst e6
  obtain ⟨n6, hn6⟩ : ∃ n6, n6 = (xs.take p ++ s :: xs.drop p).length := ⟨_, rfl⟩
  rw [← hn6] at hr6 hat6 ⊢
  have HN6 := Aside0.mk hn6
  clear hn6
  have HR6 := Aside0.mk hr6
  have HGR6 := Aside0.mk hg6
  have HAT6 := Aside0.mk hat6
  have HG6 := Aside0.mk (blk_grown (blk_below HG5.out HBE.out) hg6 HEN.out)
  have HX6 := Aside0.mk (blk_grown (blk_below HX5.out HBE.out) hg6 HNX.out)
  clear hr6 hg6 hat6
  refine hK.out _ _ ⟨(blk_cell HG6.out 1).trans rfl, (blk_cell HX6.out 0).trans rfl, (blk_cell HX6.out 1).trans rfl⟩ (fun hHeld => ?_)
  clear hK K
  refine norm_ (a' := ?_) ?_ ?_
  rotate_left
  · show Act.put _ (some 57) _ = _
    simp only [Act.put, List.setIfInBounds_toArray, List.set_cons_zero, List.set_cons_succ, i64_w, i32_w]
    rfl
  refine pure_ (i := 9) (N := (some 58)) (v := ?_) (a' := ?_) #[true, true, true, true, true, true, true, true, true, true, false, false] rfl rfl (by kernel_rfl) (fun _ _ _ h => h) (Or.inl ⟨by rfl, ?_⟩) ?_ ?_
  rotate_left
  · intro w'
    go_simp
    with_reducible rfl
  rotate_left
  · simp only [Act.put, List.setIfInBounds_toArray, List.set_cons_zero, List.set_cons_succ, i64_w, i32_w]
    rfl
  refine pure_ (i := 10) (N := (some 59)) (v := ?_) (a' := ?_) #[true, true, true, true, true, true, true, true, true, true, true, false] rfl rfl (by kernel_rfl) (fun _ _ _ h => h) (Or.inl ⟨by rfl, ?_⟩) ?_ ?_
  rotate_left
  · intro w'
    go_simp
    with_reducible rfl
  rotate_left
  · simp only [Act.put, List.setIfInBounds_toArray, List.set_cons_zero, List.set_cons_succ, i64_w, i32_w]
    rfl
  refine last_ (i := 11) (N := none) #[true, true, true, true, true, true, true, true, true, true, true, true] rfl rfl (by kernel_rfl) (by decide) (fun K hK => ?_)
  have hz := blk_frozen HG6.out 1
  have hz4 : W6.cell? ⟨eg, 1, none⟩ = some (.slice As n cs) := (blk_cell HG6.out 1).trans rfl
  refine skip_ (w1 := ?_) (by rfl) rfl ?_ ?_
  rotate_left
  · go_simp
    rfl
  refine hK.out _ _ ?_
  clear hK K hz hz4
  refine done_ (by kernel_rfl) ?_
  go_upto_region 11 with fail
  refine cwp_world ?_
  intro W7 hW7
  obtain ⟨ct, hct⟩ : ∃ ct : Nat, ct = Hd.cnt (Hd.abs S) := ⟨_, rfl⟩
  have hhd5 := blk_below HHD4.out HB5.out
  rw [← hct] at hhd5
  have hneh : some hb ≠ (Value.slice As n cs).ownBlock := fun h => by rw [HAS.out] at h; cases h
  have hhe : hb ≠ eg := by
    rintro rfl
    exact absurd (Hd.type_ne hhd5 HG5.out) (by decide)
  have hhd6 := blk_grown (blk_below hhd5 HBE.out) HGR6.out hneh
  have HHD7 := Aside0.mk (show W7.heap[hb]? = some (.cells #[.int .i64 win, .map (some mb), .int .i64 (ct : Nat)] 115 (0, 0)) by rw [hW7]; exact blk_far hhd6 (p := ⟨eg, 1, none⟩) hhe _)
  have HG7 := Aside0.mk (show W7.heap[eg]? = some (.cells #[.slice Am ml cm, .slice A6 n6 c6] 120 (0, 0)) by rw [hW7]; exact blk_put HG6.out 1 _ rfl)
  have hn6e : ∀ k, (Value.slice A6 n6 c6).ownBlock = some k → k ≠ eg ∧ k ≠ hb := fun k hk => by
    obtain ⟨cells, h1⟩ := Kd.R_typed HR6.out k hk
    constructor
    · rintro rfl
      exact absurd (Hd.type_ne HG6.out h1) (by decide)
    · rintro rfl
      exact absurd (Hd.type_ne hhd6 h1) (by decide)
  have HR7 := Aside0.mk (show k44.R 44 W7 base (fun _ => True) (.slice A6 n6 c6) (xs.take p ++ s :: xs.drop p) by
    rw [hW7]
    exact Hd.R44_move HR6.out (fun k hk => Below.heap_setCell _ ⟨eg, 1, none⟩ _ k (hn6e k hk).1))
  have HK7 := Aside0.mk (show ∀ k, k < W5.heap.size → k ≠ eg → W7.heap[k]? = W5.heap[k]? by
    intro k hk h1
    rw [hW7]
    exact (Below.heap_setCell _ ⟨eg, 1, none⟩ _ k h1).trans ((HGR6.out.block k (Nat.lt_of_lt_of_le hk HBE.out.size) (fun h => by rw [HAS.out] at h; cases h)).trans (HBE.out.block k hk)))
  have HO7 := Aside0.mk (show W7.os = W5.os ∧ W7.tape = W5.tape ∧ W7.output = W5.output ∧ W5.heap.size ≤ W7.heap.size by
    rw [hW7]
    exact ⟨HGR6.out.os.trans HBE.out.os, HGR6.out.tape.trans HBE.out.tape, HGR6.out.output.trans HBE.out.output, Nat.le_trans (Nat.le_trans HBE.out.size HGR6.out.size) (Nat.le_of_eq (by simp [World.setCell]))⟩)
  have HN6E := Aside0.mk hn6e
  have HHE := Aside0.mk hhe
  have q0 : W7.cell? ⟨hb, 2, none⟩ = some (.int .i64 (ct : Nat)) := (blk_cell HHD7.out 2).trans rfl
  have q1 := blk_frozen HHD7.out 2
  have HCTE := Aside0.mk hct
  have hctb : ct ≤ 1099511627776 := by rw [hct]; exact HCT.out
  clear hW7 hct hhd5 hhd6 hneh hhe hn6e hHeld HG6 HX6 HX5 HVB HVN HNX HEN HINS HSE
  go_wp2_with fail
  go_end0
  have hxs : Hd.putS xs s = xs.take p ++ s :: xs.drop p := by rw [HP.out, HT.out]; exact Hd.putS_new (by rw [← HT.out]; exact HTHT.out)
  have hput : Hd.putL (Hd.abs S) m s = Hd.setA (Hd.abs S) m (xs.take p ++ s :: xs.drop p) := by
    unfold Hd.putL
    rw [HF.out, ← hxs, HXS.out]
    rfl
  have hcnt : Hd.cnt (Hd.setA (Hd.abs S) m (xs.take p ++ s :: xs.drop p)) = ct + 1 := by
    have := Hd.cnt_setA (L := Hd.abs S) (m := m) (xs := xs.take p ++ s :: xs.drop p) HH2.out.ok.sorted
    rw [HF.out, HXS.out] at this
    simp only [Option.getD_none, List.length_nil, List.take_nil, List.drop_nil, List.nil_append, List.length_cons] at this
    have h3 := HCTE.out
    rw [HXS.out]
    simp only [List.take_nil, List.drop_nil, List.nil_append]
    omega
  have hfar : ∀ k, k ≠ hb → (W7.setCell ⟨hb, 2, none⟩ (.int .i64 ((ct : Int) + 1))).heap[k]? = W7.heap[k]? := fun k hk => Below.heap_setCell _ ⟨hb, 2, none⟩ _ k hk
  have hold : ∀ k, k < W2.heap.size → k ≠ hb → k ≠ mb → (W7.setCell ⟨hb, 2, none⟩ (.int .i64 ((ct : Int) + 1))).heap[k]? = W2.heap[k]? := fun k hk h1 h2 => by
    have h3 := HB3.out.size
    have h4 := HGW4.out.size
    have h5 := HB5.out.size
    have h6 := HEG.out
    exact (hfar k h1).trans ((HK7.out k (by omega) (by omega)).trans ((HB5.out.block k (by omega)).trans ((HGW4.out.block k (by omega) (fun h => h2 (Option.some.inj h))).trans (HB3.out.block k hk))))
  have hmh : mb ≠ hb := fun h => HMT.out _ _ (by rw [h]; exact HH3.out.head)
  have hmb8 : (W7.setCell ⟨hb, 2, none⟩ (.int .i64 ((ct : Int) + 1))).heap[mb]? = W4.heap[mb]? := by
    have h1 := (HH2.out.lt mb (.inr (.inl rfl))).2
    have h3 := HB3.out.size
    have h4 := HGW4.out.size
    have h5 := HB5.out.size
    have h6 := HEG.out
    exact (hfar mb hmh).trans ((HK7.out mb (by omega) (by omega)).trans (HB5.out.block mb (by omega)))
  have hlv : ∀ k, (Value.slice Am ml cm).ownBlock = some k → k < W.heap.size ∧ k ≠ hb ∧ k ≠ mb := fun k hk => by
    obtain ⟨inner, ho⟩ := Kd.R_own HLR.out
    obtain ⟨cells, h1⟩ := own_typed ho k hk
    have h2 := own_lt ho k hk
    have h3 := blk_below h1 (below_step HB2.out HB3.out)
    refine ⟨h2, ?_, ?_⟩
    · rintro rfl
      exact absurd (Hd.type_ne HH3.out.head h3) (by decide)
    · rintro rfl
      exact HMT.out _ _ h3
  have he7 : eg ≠ hb := Ne.symm HHE.out
  obtain ⟨e, he⟩ : ∃ e : Hd.Ent, e = ⟨m, xs.take p ++ s :: xs.drop p, eg, .slice Am ml cm, .slice A6 n6 c6⟩ := ⟨_, rfl⟩
  have hels : e.ls = m := by rw [he]
  have hexs : e.xs = xs.take p ++ s :: xs.drop p := by rw [he]
  have heg : e.g = eg := by rw [he]
  have helv : e.lv = .slice Am ml cm := by rw [he]
  have hesv : e.sv = .slice A6 n6 c6 := by rw [he]
  clear he
  have hbw : Below W.heap.size W W2 := HB2.out
  have hsv : ∀ k, e.sv.ownBlock = some k → W2.heap.size ≤ k := fun k hk => by
    rw [hesv] at hk
    rcases HAT6.out with h1 | ⟨b, h1, h2⟩
    · rw [h1, HAS.out] at hk
      cases hk
    · rw [h1] at hk
      injection hk with hk
      have h3 := HB3.out.size
      have h4 := HGW4.out.size
      have h5 := HB5.out.size
      have h6 := HBE.out.size
      omega
  refine ⟨rfl, Hd.setE S e, ?_, ?_, ?_⟩
  · refine HH2.out.insert (W' := W7.setCell ⟨hb, 2, none⟩ (.int .i64 ((ct : Int) + 1))) (by rw [hels]; exact HF.out) (by rw [hels]; exact HM.out) (fun D' hD' => ?_) ⟨?_, ?_, ?_, ?_⟩ (by rw [heg, HEG.out]; exact Nat.le_refl _) hsv ?_ ?_ ?_
    · rw [Hd.map_uniq (map_below hD' HB3.out) HD.out, hels, heg]
      obtain ⟨es, ck, h1, r⟩ := HOW4.out
      exact ⟨es, ck, hmb8.trans h1, r⟩
    · rw [heg, HEG.out]
      have := (HH2.out.lt hb (.inl rfl))
      omega
    · rw [heg, helv, hesv]
      exact (hfar eg he7).trans HG7.out
    · rw [helv, hels]
      refine Hd.R53_move (Kd.R_below HLR.out hbw) (fun k hk => ?_)
      obtain ⟨h1, h2, h3⟩ := hlv k hk
      exact hold k (Nat.lt_of_lt_of_le h1 hbw.size) h2 h3
    · rw [hesv, hexs]
      exact Hd.R44_move HR7.out (fun k hk => hfar k (HN6E.out k hk).2)
    · have h9 : (W7.setCell ⟨hb, 2, none⟩ (.int .i64 ((ct : Int) + 1))).heap[hb]? = some (.cells #[.int .i64 win, .map (some mb), .int .i64 ((ct + 1 : Nat) : Int)] 115 (0, 0)) := blk_put HHD7.out 2 _ rfl
      rw [← hcnt] at h9
      rw [hels, hexs]
      exact h9
    · intro k hk h1 h2
      exact hold k (HH2.out.lt k hk).2 h1 h2
    · rw [hels, hexs, ← hput]
      exact HOK.out
  · rw [Hd.abs_setE, hels, hexs]
    exact hput.symm
  · have o1 := HO7.out.1.trans ((HB5.out.os.trans (HGW4.out.os.trans HB3.out.os)).trans hbw.os)
    have o2 := HO7.out.2.1.trans ((HB5.out.tape.trans (HGW4.out.tape.trans HB3.out.tape)).trans hbw.tape)
    have o3 := HO7.out.2.2.1.trans ((HB5.out.output.trans (HGW4.out.output.trans HB3.out.output)).trans hbw.output)
    refine ⟨o1, o2, o3, ?_, fun k hk hn => ?_, fun k hk => ?_⟩
    · refine Nat.le_trans hbw.size (Nat.le_trans HB3.out.size (Nat.le_trans HGW4.out.size (Nat.le_trans HB5.out.size (Nat.le_trans HO7.out.2.2.2 (Nat.le_of_eq (by simp [World.setCell]))))))
    · exact (hold k (Nat.lt_of_lt_of_le hk hbw.size) (fun h => hn (.inl (.inl h))) (fun h => hn (.inl (.inr (.inl h))))).trans (hbw.block k hk)
    · have hws := hbw.size
      rcases hk with h1 | h1 | ⟨x, hx, h1⟩
      · exact .inl (.inl (.inl h1))
      · exact .inl (.inl (.inr (.inl h1)))
      · rcases Hd.setE_mem (Hd.esorted_of HH2.out.ok.sorted) hx with hxe | ⟨hx, _⟩
        · rw [hxe] at h1
          rcases h1 with h1 | h1 | h1
          · rw [heg, HEG.out] at h1
            exact .inr (by omega)
          · rw [helv] at h1
            exact .inl (.inr h1)
          · have := hsv k h1
            exact .inr (by omega)
        · exact .inl (.inl (.inr (.inr ⟨x, hx, h1⟩)))
end
end Go.Proofs.Ytcgocdhffcnleaa.PHead
