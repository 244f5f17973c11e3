/- Written by a program of this session out of the translation: for Go functions Lean functions of the same answers, and the proof that the calls come to these answers. -/
import Derived.WalkLawsBesides
import Derived.Test.YtjilnpbgclnecacXTight
import Derived.Test.YtjilnpbgclnecacPManifestReadsx0
import Derived.Test.YtjilnpbgclnecacPManifestReadsx3
import Derived.Test.YtjilnpbgclnecacPManifestReadsx5
namespace Go.Proofs.Ytjilnpbgclnecac.PManifestReads
open Go.RowKit Go.Proofs.YtjilnpbgclnecacW.PrintWords Go.Proofs.YtjilnpbgclnecacW.PrintLast Go.Proofs.YtjilnpbgclnecacW.PrintMore Go.Proofs.Ytjilnpbgclnecac.XB
attribute [local go_sem] sg_u8 sg_u16 sg_u32 sg_u64 mx_u8 mx_u16 mx_u32 mx_u64
attribute [local go_sem] max2_int min2_int max_two min_two max_three min_three max_four min_four   -- for this text's walks alone
set_option linter.unusedVariables false
set_option linter.unusedSimpArgs false

/-! ### manifest_Pack: function 74 -/
def manifest_Pack.num (k : Nat) (acc : List Int) (a : Int) : Option (List Int) := (varint_Put.f k a).bind fun x => if 0 < x.length ∧ acc.length + x.length < 140737488355328 then some (acc ++ x) else none
def manifest_Pack.sgn (k : Nat) (acc : List Int) (a : Int) : Option (List Int) := (varint_Signed.f k a).bind fun x => if 0 < x.length ∧ acc.length + x.length < 140737488355328 then some (acc ++ x) else none
def manifest_Pack.l0 (k : Nat) : List Int → List S114 → Option (List Int)
 | acc, [] => some acc
 | acc, b :: l => (manifest_Pack.num k acc b.f0).bind fun x0 => (manifest_Pack.num k x0 b.f1).bind fun x1 => (manifest_Pack.sgn k x1 b.f2).bind fun x2 => (manifest_Pack.sgn k x2 b.f3).bind fun x3 => manifest_Pack.l0 k x3 l
def manifest_Pack.f (k : Nat) (l0_0 : List S114) (a0_1 a0_2 a0_3 : Int) : Option (List Int × Int) :=
 (manifest_Check.f k l0_0 a0_1 a0_2 a0_3).bind fun t =>
  if t = 0 then (manifest_Pack.num k [76, 89, 83, 77] a0_1).bind fun x0 => (manifest_Pack.num k x0 a0_2).bind fun x1 => (manifest_Pack.sgn k x1 a0_3).bind fun x2 => (manifest_Pack.num k x2 (l0_0.length : Int)).bind fun x3 =>
   (manifest_Pack.l0 k x3 l0_0).bind fun x4 => (block_Summed.f k x4).bind fun r => some (r, 0)
  else some ([], t)
theorem manifest_Pack.num_mono (acc : List Int) (a : Int) (k : Nat) : LeO (manifest_Pack.num k acc a) (manifest_Pack.num (k + 1) acc a) := LeO.bind (varint_Put.mono _ _) fun _ => LeO.refl _
theorem manifest_Pack.sgn_mono (acc : List Int) (a : Int) (k : Nat) : LeO (manifest_Pack.sgn k acc a) (manifest_Pack.sgn (k + 1) acc a) := LeO.bind (varint_Signed.mono _ _) fun _ => LeO.refl _
theorem manifest_Pack.mono_l (k : Nat) : ∀ l acc, LeO (manifest_Pack.l0 k acc l) (manifest_Pack.l0 (k + 1) acc l)
 | [], _ => LeO.refl _
 | b :: l, acc => LeO.bind (manifest_Pack.num_mono _ _ _) fun _ => LeO.bind (manifest_Pack.num_mono _ _ _) fun _ => LeO.bind (manifest_Pack.sgn_mono _ _ _) fun _ => LeO.bind (manifest_Pack.sgn_mono _ _ _) fun _ => manifest_Pack.mono_l k l _
theorem manifest_Pack.mono : ∀ a0 a1 a2 a3 k, LeO (manifest_Pack.f k a0 a1 a2 a3) (manifest_Pack.f (k + 1) a0 a1 a2 a3) := by
 intro a0 a1 a2 a3 k
 exact LeO.bind (manifest_Check.mono _ _ _ _ _) fun t => LeO.ite (LeO.bind (manifest_Pack.num_mono _ _ _) fun _ => LeO.bind (manifest_Pack.num_mono _ _ _) fun _ => LeO.bind (manifest_Pack.sgn_mono _ _ _) fun _ => LeO.bind (manifest_Pack.num_mono _ _ _) fun _ => LeO.bind (manifest_Pack.mono_l _ _ _) fun _ => LeO.bind (block_Summed.mono _ _) fun _ => LeO.refl _) (LeO.refl _)
-- WALK
section
open Go.Proofs.Ytjilnpbgclnecac
/-- A packer: its row lies in blocks of S other than its own. -/
structure manifest_Pack.WS (own : Prop) (W : World) (base : Nat) (S : Nat → Prop) (g : Nat) (l : List Int) : Prop where
 v : ∃ v, W.heap[g]? = some (.cells #[v] 181 (0, 0)) ∧ XT.RT .u8 5 W base (fun k => S k ∧ k ≠ g) v l ∧ (own → (Kd.int .u8).R 5 W base (fun k => S k ∧ k ≠ g) v l)
 b : base ≤ g
theorem manifest_Pack.WS.below {own : Prop} {W W' : World} {base g : Nat} {S : Nat → Prop} {l : List Int} (h : manifest_Pack.WS own W base S g l) (hb : Below W.heap.size W W') : manifest_Pack.WS own W' base S g l := by
 obtain ⟨⟨v, h1, h2, h4⟩, h3⟩ := h
 exact ⟨⟨v, blk_below h1 hb, XT.RT.below h2 hb, fun o => Kd.R_below (h4 o) hb⟩, h3⟩
theorem manifest_Pack.WS.fresh {own : Prop} {W : World} {base g : Nat} {S S' : Nat → Prop} {l : List Int} (h : manifest_Pack.WS own W base S g l) (hs : ∀ k, k < W.heap.size → S k → S' k) : manifest_Pack.WS own W base S' g l := by
 obtain ⟨⟨v, h1, h2, h4⟩, h3⟩ := h
 exact ⟨⟨v, h1, XT.RT.mono (XT.RT.lt h2) (fun k hk => ⟨hs k hk.2 hk.1.1, hk.1.2⟩), fun o => ⟨fun b hb => ⟨hs b (Kd.R_lt (h4 o) b hb) ((h4 o).1 b hb).1, ((h4 o).1 b hb).2⟩, (h4 o).2.imp_ (fun _ _ hp => hp)⟩⟩, h3⟩
set_option maxHeartbeats 4000000 in
set_option maxRecDepth 100000 in
theorem manifest_Pack.number (k : Nat) (S : Nat → Prop) (g : Nat) (l : List Int) (a : Int) (r : List Int) (w0 w : World) (hB : Below w0.heap.size w0 w) (hS : ∀ k, w.heap.size ≤ k → S k) (hg : S g) {own : Prop} (hW : manifest_Pack.WS own w w0.heap.size S g l) (h : manifest_Pack.num k l a = some r) :
  Calls Try.prog 126 #[.pointer (some ⟨g, 0, none⟩), .int .i64 a] w fun e w' => e = .returned (.tuple #[]) ∧ manifest_Pack.WS True w' w0.heap.size S g r ∧ Below w0.heap.size w0 w' ∧ Kept w w' S := by
 unfold manifest_Pack.num at h
 obtain ⟨x, h1, h2⟩ := Option.bind_eq_some_iff.1 h
 obtain ⟨⟨hx0, hl⟩, rfl⟩ : (0 < x.length ∧ l.length + x.length < 140737488355328) ∧ l ++ x = r := by
  by_cases hc : 0 < x.length ∧ l.length + x.length < 140737488355328
  ·rw [if_pos hc] at h2; exact ⟨hc, by simpa using h2⟩
  ·rw [if_neg hc] at h2; cases h2
 obtain ⟨⟨v, hb, hr, _⟩, hbg⟩ := hW
 have HB := Aside0.mk hB
 have HSF := Aside0.mk hS
 have HSG := Aside0.mk hg
 have HBK := Aside0.mk hb
 have HR := Aside0.mk hr
 have HG := Aside0.mk hbg
 have HL := Aside0.mk hl
 have HX := Aside0.mk hx0
 have H1 := Aside0.mk h1
 obtain ⟨Av, cv, rfl⟩ := XT.RT.slice hr
 have z0 : w.cell? ⟨g, 0, none⟩ = some (.slice Av l.length cv) := (blk_cell hb 0).trans rfl
 have zf0 := blk_frozen hb 0
 clear hS hg hx0 hB hb hr hbg hl h1 h2 h
 go_enter Try.func126, Try.ntmps126
 go_wp2
 have HB2 := Aside0.mk (below_drew1 HB.out)
 have HBK2 := Aside0.mk (blk_drew HBK.out)
 have HR2 := Aside0.mk (XT.RT.drew HR.out)
 have HK2 := Aside0.mk (Kept.refl w S).drew
 clear HB HBK HR
 refine start_ (n := 11) (S := fun w' => w'.cell? ⟨g, 0, none⟩ = some (.slice Av l.length cv)) (ds := [10]) #[false, false, false, false, false, false, false, false, false, false, false] (by kernel_rfl) rfl rfl ((blk_cell HBK2.out 0).trans rfl) (fun hHeld => ?_)
 clear z0 zf0
 generalize w.drew = w2 at HB2 HBK2 HR2 HK2 hHeld ⊢
 refine pure_ (i := 0) (N := (some 4)) (v := ?_) (a' := ?_) #[true, false, false, false, false, false, false, false, false, false, false] rfl rfl (by kernel_rfl) (fun _ _ _ h => h) (Or.inl ⟨by rfl, ?_⟩) ?_ ?_
 rotate_left
 ·intro w'
  go_simp
  with_reducible rfl
 rotate_left
 ·simp only [Act.put, List.setIfInBounds_toArray, List.set_cons_zero, List.set_cons_succ, i64_w, i32_w]
  rfl
 refine pure_ (i := 1) (N := (some 5)) (v := ?_) (a' := ?_) #[true, true, false, false, false, false, false, false, false, false, false] rfl rfl (by kernel_rfl) (fun _ _ _ h => h) (Or.inl ⟨by rfl, ?_⟩) ?_ ?_
 rotate_left
 ·intro w'
  go_simp
  with_reducible rfl
 rotate_left
 ·simp only [Act.put, List.setIfInBounds_toArray, List.set_cons_zero, List.set_cons_succ, i64_w, i32_w]
  rfl
 refine pure_ (i := 2) (N := (some 6)) (v := ?_) (a' := ?_) #[true, true, true, false, false, false, false, false, false, false, false] rfl rfl (by kernel_rfl) (fun _ _ _ h => h) (Or.inl ⟨by rfl, ?_⟩) ?_ ?_
 rotate_left
 ·intro w'
  go_simp
  with_reducible rfl
 rotate_left
 ·simp only [Act.put, List.setIfInBounds_toArray, List.set_cons_zero, List.set_cons_succ, i64_w, i32_w]
  rfl
 refine pure_ (i := 3) (N := (some 7)) (v := ?_) (a' := ?_) #[true, true, true, true, false, false, false, false, false, false, false] rfl rfl (by kernel_rfl) (fun _ _ _ h => h) (Or.inl ⟨by rfl, ?_⟩) ?_ ?_
 rotate_left
 ·intro w'
  go_simp
  with_reducible rfl
 rotate_left
 ·simp only [Act.put, List.setIfInBounds_toArray, List.set_cons_zero, List.set_cons_succ, i64_w, i32_w]
  rfl
 refine take_ (i := 4) (N := (some 8)) (v := ?_) (a' := ?_) #[true, true, true, true, true, false, false, false, false, false, false] rfl rfl (by kernel_rfl) (fun _ _ _ h => h) (Or.inl ⟨by rfl, ?_⟩) hHeld ?_ ?_
 rotate_left
 ·rintro w' s0
  go_simp
  with_reducible rfl
 rotate_left
 ·simp only [Act.put, List.setIfInBounds_toArray, List.set_cons_zero, List.set_cons_succ, i64_w, i32_w]
  rfl
 refine pure_ (i := 5) (N := (some 9)) (v := ?_) (a' := ?_) #[true, true, true, true, true, true, false, false, false, false, false] rfl rfl (by kernel_rfl) (fun _ _ _ h => h) (Or.inl ⟨by rfl, ?_⟩) ?_ ?_
 rotate_left
 ·intro w'
  go_simp
  with_reducible rfl
 rotate_left
 ·simp only [Act.put, List.setIfInBounds_toArray, List.set_cons_zero, List.set_cons_succ, i64_w, i32_w]
  rfl
 refine one_ (i := 6) (N := (some 10)) #[true, true, true, true, true, true, true, false, false, false, false] rfl rfl (by kernel_rfl) (by decide) (fun K hK => ?_)
 refine goes_ Try.func170 (by kernel_rfl) rfl #[.int .i64 a] (by rfl) rfl rfl (by first | (simp; done) | ((try simp only [List.map_toArray, List.map_cons, List.map_nil]); first | done | rfl)) ?_
 (with_reducible refine (varint_Put.calls k a x _ H1.out).mono ?_)
 rintro e w3 ⟨v3, rfl, ho3, hb3⟩
 refine ⟨_, rfl, ?_⟩
 have HR3 := Aside0.mk (XT.RT.below HR2.out hb3)
 have HBK3 := Aside0.mk (blk_below HBK2.out hb3)
 have HB3 := Aside0.mk (below_step HB2.out hb3)
 have HK3 := Aside0.mk (HK2.out.below hb3)
 have HSF3 := Aside0.mk (fun (k : Nat) (hk : w3.heap.size ≤ k) => HSF.out k (Nat.le_trans HK3.out.1 hk))
 clear HB2 HBK2 HR2 HK2
 obtain ⟨A3, c3, e3, hc3, hr3⟩ := Kd.R_reads ho3
 subst e3
 have hfar3 : ∀ k_, k_ ∉ ([] : List Nat) → True := fun _ _ => trivial
 refine hK.out _ _ ((blk_cell HBK3.out 0).trans rfl) (fun hHeld => ?_)
 clear hK K
 refine norm_ (a' := ?_) ?_ ?_
 rotate_left
 ·show Act.put _ (some 10) _ = _
  simp only [Act.put, List.setIfInBounds_toArray, List.set_cons_zero, List.set_cons_succ, i64_w, i32_w]
  rfl
 refine one_ (i := 7) (N := (some 11)) #[true, true, true, true, true, true, true, true, false, false, false] rfl rfl (by kernel_rfl) (by decide) (fun K hK => ?_)
 refine XT.RT_append_step .u8 (w0 := w0) w0.heap.size (by rfl) (.tmp 8) (.tmp 10) 22 5 (.int .u8 0) 1 rfl Try.underlying22 info5 rfl (by omega) (.slice Av l.length cv) l x _ _ _ (fun k => S k ∧ k ≠ g) rfl rfl HR3.out hr3 HX.out (fun k hk => ⟨HSF3.out k hk, by have := blk_lt HBK3.out; omega⟩) HB3.out HB3.out.size (by have := HL.out; omega) ?_
 intro v4 w4 ho4 hb4 hg4 hat4
 have hne : some g ≠ (Value.slice Av l.length cv).ownBlock := fun he => (XT.RT.own HR3.out g he.symm).2 rfl
 have HK4 := Aside0.mk (Kept.of_grown hg4 HK3.out (fun k hk => .inl (XT.RT.own HR3.out k hk).1))
 have hbk4 := blk_grown HBK3.out hg4 hne
 obtain ⟨A4, c4, e4⟩ := Kd.R_slice ho4
 subst e4
 clear hHeld
 refine hK.out _ _ ((blk_cell hbk4 0).trans rfl) (fun hHeld => ?_)
 clear hK K
 refine norm_ (a' := ?_) ?_ ?_
 rotate_left
 ·show Act.put _ (some 11) _ = _
  simp only [Act.put, List.setIfInBounds_toArray, List.set_cons_zero, List.set_cons_succ, i64_w, i32_w]
  rfl
 refine pure_ (i := 8) (N := (some 12)) (v := ?_) (a' := ?_) #[true, true, true, true, true, true, true, true, true, false, false] rfl rfl (by kernel_rfl) (fun _ _ _ h => h) (Or.inl ⟨by rfl, ?_⟩) ?_ ?_
 rotate_left
 ·intro w'
  go_simp
  with_reducible rfl
 rotate_left
 ·simp only [Act.put, List.setIfInBounds_toArray, List.set_cons_zero, List.set_cons_succ, i64_w, i32_w]
  rfl
 refine pure_ (i := 9) (N := (some 13)) (v := ?_) (a' := ?_) #[true, true, true, true, true, true, true, true, true, true, false] rfl rfl (by kernel_rfl) (fun _ _ _ h => h) (Or.inl ⟨by rfl, ?_⟩) ?_ ?_
 rotate_left
 ·intro w'
  go_simp
  with_reducible rfl
 rotate_left
 ·simp only [Act.put, List.setIfInBounds_toArray, List.set_cons_zero, List.set_cons_succ, i64_w, i32_w]
  rfl
 refine last_ (i := 10) (N := none) #[true, true, true, true, true, true, true, true, true, true, true] rfl rfl (by kernel_rfl) (by decide) (fun K hK => ?_)
 have hzf := blk_frozen hbk4 0
 have hz4 : w4.cell? ⟨g, 0, none⟩ = some (.slice Av l.length cv) := (blk_cell hbk4 0).trans rfl
 refine skip_ (w1 := ?_) (by rfl) rfl ?_ ?_
 rotate_left
 ·go_simp
  rfl
 refine hK.out _ _ ?_
 clear hK K
 refine done_ (by kernel_rfl) ?_
 go_wp2
 go_end0
 rw [List.length_append] at ho4
 exact ⟨rfl, ⟨⟨_, blk_put hbk4 0 _ rfl, .inl (Kd.R_far (p := ⟨g, 0, none⟩) ho4 (fun _ hk => hk.2) _), fun _ => Kd.R_far (p := ⟨g, 0, none⟩) ho4 (fun _ hk => hk.2) _⟩, HG.out⟩, hb4.setCell (p := ⟨g, 0, none⟩) HG.out _, HK4.out.setCell (p := ⟨g, 0, none⟩) (.inl HSG.out) _⟩
set_option maxHeartbeats 4000000 in
set_option maxRecDepth 100000 in
theorem manifest_Pack.signed (k : Nat) (S : Nat → Prop) (g : Nat) (l : List Int) (a : Int) (r : List Int) (w0 w : World) (hB : Below w0.heap.size w0 w) (hS : ∀ k, w.heap.size ≤ k → S k) (hg : S g) {own : Prop} (hW : manifest_Pack.WS own w w0.heap.size S g l) (h : manifest_Pack.sgn k l a = some r) :
  Calls Try.prog 127 #[.pointer (some ⟨g, 0, none⟩), .int .i64 a] w fun e w' => e = .returned (.tuple #[]) ∧ manifest_Pack.WS True w' w0.heap.size S g r ∧ Below w0.heap.size w0 w' ∧ Kept w w' S := by
 unfold manifest_Pack.sgn at h
 obtain ⟨x, h1, h2⟩ := Option.bind_eq_some_iff.1 h
 obtain ⟨⟨hx0, hl⟩, rfl⟩ : (0 < x.length ∧ l.length + x.length < 140737488355328) ∧ l ++ x = r := by
  by_cases hc : 0 < x.length ∧ l.length + x.length < 140737488355328
  ·rw [if_pos hc] at h2; exact ⟨hc, by simpa using h2⟩
  ·rw [if_neg hc] at h2; cases h2
 obtain ⟨⟨v, hb, hr, _⟩, hbg⟩ := hW
 have HB := Aside0.mk hB
 have HSF := Aside0.mk hS
 have HSG := Aside0.mk hg
 have HBK := Aside0.mk hb
 have HR := Aside0.mk hr
 have HG := Aside0.mk hbg
 have HL := Aside0.mk hl
 have HX := Aside0.mk hx0
 have H1 := Aside0.mk h1
 obtain ⟨Av, cv, rfl⟩ := XT.RT.slice hr
 have z0 : w.cell? ⟨g, 0, none⟩ = some (.slice Av l.length cv) := (blk_cell hb 0).trans rfl
 have zf0 := blk_frozen hb 0
 clear hS hg hx0 hB hb hr hbg hl h1 h2 h
 go_enter Try.func127, Try.ntmps127
 go_wp2
 have HB2 := Aside0.mk (below_drew1 HB.out)
 have HBK2 := Aside0.mk (blk_drew HBK.out)
 have HR2 := Aside0.mk (XT.RT.drew HR.out)
 have HK2 := Aside0.mk (Kept.refl w S).drew
 clear HB HBK HR
 refine start_ (n := 11) (S := fun w' => w'.cell? ⟨g, 0, none⟩ = some (.slice Av l.length cv)) (ds := [10]) #[false, false, false, false, false, false, false, false, false, false, false] (by kernel_rfl) rfl rfl ((blk_cell HBK2.out 0).trans rfl) (fun hHeld => ?_)
 clear z0 zf0
 generalize w.drew = w2 at HB2 HBK2 HR2 HK2 hHeld ⊢
 refine pure_ (i := 0) (N := (some 4)) (v := ?_) (a' := ?_) #[true, false, false, false, false, false, false, false, false, false, false] rfl rfl (by kernel_rfl) (fun _ _ _ h => h) (Or.inl ⟨by rfl, ?_⟩) ?_ ?_
 rotate_left
 ·intro w'
  go_simp
  with_reducible rfl
 rotate_left
 ·simp only [Act.put, List.setIfInBounds_toArray, List.set_cons_zero, List.set_cons_succ, i64_w, i32_w]
  rfl
 refine pure_ (i := 1) (N := (some 5)) (v := ?_) (a' := ?_) #[true, true, false, false, false, false, false, false, false, false, false] rfl rfl (by kernel_rfl) (fun _ _ _ h => h) (Or.inl ⟨by rfl, ?_⟩) ?_ ?_
 rotate_left
 ·intro w'
  go_simp
  with_reducible rfl
 rotate_left
 ·simp only [Act.put, List.setIfInBounds_toArray, List.set_cons_zero, List.set_cons_succ, i64_w, i32_w]
  rfl
 refine pure_ (i := 2) (N := (some 6)) (v := ?_) (a' := ?_) #[true, true, true, false, false, false, false, false, false, false, false] rfl rfl (by kernel_rfl) (fun _ _ _ h => h) (Or.inl ⟨by rfl, ?_⟩) ?_ ?_
 rotate_left
 ·intro w'
  go_simp
  with_reducible rfl
 rotate_left
 ·simp only [Act.put, List.setIfInBounds_toArray, List.set_cons_zero, List.set_cons_succ, i64_w, i32_w]
  rfl
 refine pure_ (i := 3) (N := (some 7)) (v := ?_) (a' := ?_) #[true, true, true, true, false, false, false, false, false, false, false] rfl rfl (by kernel_rfl) (fun _ _ _ h => h) (Or.inl ⟨by rfl, ?_⟩) ?_ ?_
 rotate_left
 ·intro w'
  go_simp
  with_reducible rfl
 rotate_left
 ·simp only [Act.put, List.setIfInBounds_toArray, List.set_cons_zero, List.set_cons_succ, i64_w, i32_w]
  rfl
 refine take_ (i := 4) (N := (some 8)) (v := ?_) (a' := ?_) #[true, true, true, true, true, false, false, false, false, false, false] rfl rfl (by kernel_rfl) (fun _ _ _ h => h) (Or.inl ⟨by rfl, ?_⟩) hHeld ?_ ?_
 rotate_left
 ·rintro w' s0
  go_simp
  with_reducible rfl
 rotate_left
 ·simp only [Act.put, List.setIfInBounds_toArray, List.set_cons_zero, List.set_cons_succ, i64_w, i32_w]
  rfl
 refine pure_ (i := 5) (N := (some 9)) (v := ?_) (a' := ?_) #[true, true, true, true, true, true, false, false, false, false, false] rfl rfl (by kernel_rfl) (fun _ _ _ h => h) (Or.inl ⟨by rfl, ?_⟩) ?_ ?_
 rotate_left
 ·intro w'
  go_simp
  with_reducible rfl
 rotate_left
 ·simp only [Act.put, List.setIfInBounds_toArray, List.set_cons_zero, List.set_cons_succ, i64_w, i32_w]
  rfl
 refine one_ (i := 6) (N := (some 10)) #[true, true, true, true, true, true, true, false, false, false, false] rfl rfl (by kernel_rfl) (by decide) (fun K hK => ?_)
 refine goes_ Try.func171 (by kernel_rfl) rfl #[.int .i64 a] (by rfl) rfl rfl (by first | (simp; done) | ((try simp only [List.map_toArray, List.map_cons, List.map_nil]); first | done | rfl)) ?_
 (with_reducible refine (varint_Signed.calls k a x _ H1.out).mono ?_)
 rintro e w3 ⟨v3, rfl, ho3, hb3⟩
 refine ⟨_, rfl, ?_⟩
 have HR3 := Aside0.mk (XT.RT.below HR2.out hb3)
 have HBK3 := Aside0.mk (blk_below HBK2.out hb3)
 have HB3 := Aside0.mk (below_step HB2.out hb3)
 have HK3 := Aside0.mk (HK2.out.below hb3)
 have HSF3 := Aside0.mk (fun (k : Nat) (hk : w3.heap.size ≤ k) => HSF.out k (Nat.le_trans HK3.out.1 hk))
 clear HB2 HBK2 HR2 HK2
 obtain ⟨A3, c3, e3, hc3, hr3⟩ := Kd.R_reads ho3
 subst e3
 have hfar3 : ∀ k_, k_ ∉ ([] : List Nat) → True := fun _ _ => trivial
 refine hK.out _ _ ((blk_cell HBK3.out 0).trans rfl) (fun hHeld => ?_)
 clear hK K
 refine norm_ (a' := ?_) ?_ ?_
 rotate_left
 ·show Act.put _ (some 10) _ = _
  simp only [Act.put, List.setIfInBounds_toArray, List.set_cons_zero, List.set_cons_succ, i64_w, i32_w]
  rfl
 refine one_ (i := 7) (N := (some 11)) #[true, true, true, true, true, true, true, true, false, false, false] rfl rfl (by kernel_rfl) (by decide) (fun K hK => ?_)
 refine XT.RT_append_step .u8 (w0 := w0) w0.heap.size (by rfl) (.tmp 8) (.tmp 10) 22 5 (.int .u8 0) 1 rfl Try.underlying22 info5 rfl (by omega) (.slice Av l.length cv) l x _ _ _ (fun k => S k ∧ k ≠ g) rfl rfl HR3.out hr3 HX.out (fun k hk => ⟨HSF3.out k hk, by have := blk_lt HBK3.out; omega⟩) HB3.out HB3.out.size (by have := HL.out; omega) ?_
 intro v4 w4 ho4 hb4 hg4 hat4
 have hne : some g ≠ (Value.slice Av l.length cv).ownBlock := fun he => (XT.RT.own HR3.out g he.symm).2 rfl
 have HK4 := Aside0.mk (Kept.of_grown hg4 HK3.out (fun k hk => .inl (XT.RT.own HR3.out k hk).1))
 have hbk4 := blk_grown HBK3.out hg4 hne
 obtain ⟨A4, c4, e4⟩ := Kd.R_slice ho4
 subst e4
 clear hHeld
 refine hK.out _ _ ((blk_cell hbk4 0).trans rfl) (fun hHeld => ?_)
 clear hK K
 refine norm_ (a' := ?_) ?_ ?_
 rotate_left
 ·show Act.put _ (some 11) _ = _
  simp only [Act.put, List.setIfInBounds_toArray, List.set_cons_zero, List.set_cons_succ, i64_w, i32_w]
  rfl
 refine pure_ (i := 8) (N := (some 12)) (v := ?_) (a' := ?_) #[true, true, true, true, true, true, true, true, true, false, false] rfl rfl (by kernel_rfl) (fun _ _ _ h => h) (Or.inl ⟨by rfl, ?_⟩) ?_ ?_
 rotate_left
 ·intro w'
  go_simp
  with_reducible rfl
 rotate_left
 ·simp only [Act.put, List.setIfInBounds_toArray, List.set_cons_zero, List.set_cons_succ, i64_w, i32_w]
  rfl
 refine pure_ (i := 9) (N := (some 13)) (v := ?_) (a' := ?_) #[true, true, true, true, true, true, true, true, true, true, false] rfl rfl (by kernel_rfl) (fun _ _ _ h => h) (Or.inl ⟨by rfl, ?_⟩) ?_ ?_
 rotate_left
 ·intro w'
  go_simp
  with_reducible rfl
 rotate_left
 ·simp only [Act.put, List.setIfInBounds_toArray, List.set_cons_zero, List.set_cons_succ, i64_w, i32_w]
  rfl
 refine last_ (i := 10) (N := none) #[true, true, true, true, true, true, true, true, true, true, true] rfl rfl (by kernel_rfl) (by decide) (fun K hK => ?_)
 have hzf := blk_frozen hbk4 0
 have hz4 : w4.cell? ⟨g, 0, none⟩ = some (.slice Av l.length cv) := (blk_cell hbk4 0).trans rfl
 refine skip_ (w1 := ?_) (by rfl) rfl ?_ ?_
 rotate_left
 ·go_simp
  rfl
 refine hK.out _ _ ?_
 clear hK K
 refine done_ (by kernel_rfl) ?_
 go_wp2
 go_end0
 rw [List.length_append] at ho4
 exact ⟨rfl, ⟨⟨_, blk_put hbk4 0 _ rfl, .inl (Kd.R_far (p := ⟨g, 0, none⟩) ho4 (fun _ hk => hk.2) _), fun _ => Kd.R_far (p := ⟨g, 0, none⟩) ho4 (fun _ hk => hk.2) _⟩, HG.out⟩, hb4.setCell (p := ⟨g, 0, none⟩) HG.out _, HK4.out.setCell (p := ⟨g, 0, none⟩) (.inl HSG.out) _⟩
set_option maxHeartbeats 8000000 in
set_option maxRecDepth 100000 in
theorem manifest_Pack.calls (k : Nat) (A0_0 : Option Addr) (c0_0 : Nat) (l0_0 : List (S114)) (a0_1 : Int) (a0_2 : Int) (a0_3 : Int) (r1 : List Int) (r2 : Int) (w : World) (hr0_0 : Kd.C k114 w A0_0 l0_0.length l0_0) (hc0_0 : l0_0.length ≤ c0_0) (h : manifest_Pack.f k l0_0 a0_1 a0_2 a0_3 = some (r1, r2)) :
  Calls Try.prog 74 #[.agg #[.slice A0_0 l0_0.length c0_0, .int .i64 a0_1, .int .i64 a0_2, .int .i64 a0_3]] w fun e w' => ∃ v0_ : Value, e = .returned (.tuple #[v0_, .int .i64 r2]) ∧ Kd.R (Kd.int .u8) 5 w' w.heap.size (fun _ => True) v0_ r1 ∧ Below w.heap.size w w' := by
 have hu26 := Try.underlying26
 have hu114 := Try.underlying114
 have hmf : ∀ (fn : Fn) (first cap : Array Value) (w : World), (Instr.makeFunc fn first cap).run Try.prog w = .ok (.func fn first cap) w := fun _ _ _ _ => rfl
 have HR0 := Aside0.mk hr0_0
 have HC0 := Aside0.mk hc0_0
 clear hr0_0 hc0_0
 unfold manifest_Pack.f at h
 obtain ⟨t, h1, h⟩ := Option.bind_eq_some_iff.mp h
 have A1 := Aside0.mk h1
 have H := Aside0.mk h
 clear h1 h
 have hcv := fun (w : World) (C : Array Value) (n c : Nat) => Go.Lib.run_convert_bytes_const (P := Try.prog) w 22 5 C n c Try.underlying22 Try.underlying5
 go_enter Try.func74, Try.ntmps74
 by_cases ht : t = 0
 case neg =>
  have htb : (t != 0) = true := bne_iff_ne.mpr ht
  have H2 := Aside0.mk (show some (([] : List Int), t) = some (r1, r2) from (if_neg ht).symm.trans H.out)
  clear H ht
  go_wp2_with (first
   | ((with_reducible refine gate_dst (N := 1) rfl ?_); refine box_event ?hg (N := 1) ?hd (cs := #[.slice A0_0 l0_0.length c0_0, .int .i64 a0_1, .int .i64 a0_2, .int .i64 a0_3]) (t := 26) ?hr ?_; (case hd => rfl); (case hg => rfl); (case hr => first | (go_simp; done) | (go_simp; rfl)); intro g1 hg1 w1 bk1 hb1; have BK0 := Aside0.mk bk1; have HB1 := Aside0.mk hb1; clear bk1 hb1 hg1; have HB := Aside0.mk (Below.refl w1.heap.size w1); have z0 : w1.cell? ⟨g1, 0, none⟩ = some (.slice A0_0 l0_0.length c0_0) := (blk_cell (blk_below BK0.out HB.out) 0).trans rfl; have z1 : w1.cell? ⟨g1, 1, none⟩ = some (.int .i64 a0_1) := (blk_cell (blk_below BK0.out HB.out) 1).trans rfl; have z2 : w1.cell? ⟨g1, 2, none⟩ = some (.int .i64 a0_2) := (blk_cell (blk_below BK0.out HB.out) 2).trans rfl; have z3 : w1.cell? ⟨g1, 3, none⟩ = some (.int .i64 a0_3) := (blk_cell (blk_below BK0.out HB.out) 3).trans rfl)
   | (go_at_call 122; (with_reducible refine (manifest_Check.calls k _ _ l0_0 a0_1 a0_2 a0_3 _ _ ?side1 ?side2 A1.out).mono ?_); (case side1 => exact Kd.C_below HR0.out HB1.out); (case side2 => exact HC0.out); rintro e w3 ⟨rfl, hb3⟩; have n2_ := Aside0.mk (below_step HB.out hb3); clear HB z0 z1 z2 z3; have HB := n2_; clear n2_ hb3))
  have h2 := H2.out
  simp only [Option.some.injEq, Prod.mk.injEq] at h2
  obtain ⟨rfl, rfl⟩ := h2
  refine bodyPost_ret (results_list (rs := [.tmp 2, .tmp 3]) (vs := [.slice none 0 0, .int .i64 t]) rfl (by simp) (by repeat constructor)) rfl ?_
  exact ⟨_, rfl, Kd.R_nil _ _ _ _ _, below_step HB1.out HB.out⟩
 case pos =>
 have htb : (t != 0) = false := bne_eq_false_iff_eq.mpr ht
 subst ht
 have h := H.out
 clear H
 rw [if_pos rfl] at h
 obtain ⟨x0, hx0, h⟩ := Option.bind_eq_some_iff.mp h
 have X0 := Aside0.mk hx0
 clear hx0
 obtain ⟨x1, hx1, h⟩ := Option.bind_eq_some_iff.mp h
 have X1 := Aside0.mk hx1
 clear hx1
 obtain ⟨x2, hx2, h⟩ := Option.bind_eq_some_iff.mp h
 have X2 := Aside0.mk hx2
 clear hx2
 obtain ⟨x3, hx3, h⟩ := Option.bind_eq_some_iff.mp h
 have X3 := Aside0.mk hx3
 clear hx3
 obtain ⟨x4, hx4, h⟩ := Option.bind_eq_some_iff.mp h
 have X4 := Aside0.mk hx4
 clear hx4
 obtain ⟨x5, hx5, h⟩ := Option.bind_eq_some_iff.mp h
 have X5 := Aside0.mk hx5
 clear hx5
 simp only [Option.some.injEq, Prod.mk.injEq] at h
 obtain ⟨rfl, rfl⟩ := h
 go_wp2_with (first
  | ((with_reducible refine gate_dst (N := 1) rfl ?_); refine box_event ?hg (N := 1) ?hd (cs := #[.slice A0_0 l0_0.length c0_0, .int .i64 a0_1, .int .i64 a0_2, .int .i64 a0_3]) (t := 26) ?hr ?_; (case hd => rfl); (case hg => rfl); (case hr => first | (go_simp; done) | (go_simp; rfl)); intro g1 hg1 w1 bk1 hb1; have BK0 := Aside0.mk bk1; have HB1 := Aside0.mk hb1; clear bk1 hb1 hg1; have HB := Aside0.mk (Below.refl w1.heap.size w1); have z0 : w1.cell? ⟨g1, 0, none⟩ = some (.slice A0_0 l0_0.length c0_0) := (blk_cell (blk_below BK0.out HB.out) 0).trans rfl; have z1 : w1.cell? ⟨g1, 1, none⟩ = some (.int .i64 a0_1) := (blk_cell (blk_below BK0.out HB.out) 1).trans rfl; have z2 : w1.cell? ⟨g1, 2, none⟩ = some (.int .i64 a0_2) := (blk_cell (blk_below BK0.out HB.out) 2).trans rfl; have z3 : w1.cell? ⟨g1, 3, none⟩ = some (.int .i64 a0_3) := (blk_cell (blk_below BK0.out HB.out) 3).trans rfl)
  | (go_at_call 122; (with_reducible refine (manifest_Check.calls k _ _ l0_0 a0_1 a0_2 a0_3 _ _ ?side1 ?side2 A1.out).mono ?_); (case side1 => exact Kd.C_below HR0.out HB1.out); (case side2 => exact HC0.out); rintro e w3 ⟨rfl, hb3⟩; have n2_ := Aside0.mk (below_step HB.out hb3); clear HB z0 z1 z2 z3; have HB := n2_; clear n2_ hb3)
  | ((with_reducible refine gate_dst (N := 18) rfl ?_); refine box_event ?hg (N := 18) ?hd (cs := #[.slice (some ⟨w3.heap.size, 0, none⟩) 4 4]) (t := 181) ?hr ?_; (case hd => rfl); (case hg => rfl); (case hr => first | (go_simp; done) | (go_simp; rfl)); intro gp hgp w18 bk18 hb18; have hb17 := below_step (below_alloc (Below.refl w3.heap.size w3) _) hb18; have HS := Aside0.mk (manifest_Pack.WS.mk (own := False) (W := w18) (base := w1.heap.size) (S := fun _ => True) (l := [76, 89, 83, 77]) ⟨_, bk18, .inr ⟨w3.heap.size, (4, 5), rfl, below_size HB.out, ⟨trivial, (by rw [hgp, World.size_alloc]; omega)⟩, blk_below (blk_new w3 _) hb18⟩, fun o => o.elim⟩ (show w1.heap.size ≤ gp by rw [hgp, World.size_alloc]; have := below_size HB.out; omega)); have n2_ := Aside0.mk (below_step HB.out hb17); clear HB bk18 hb18 hb17 hgp; have HB := n2_; clear n2_; have z0 : w18.cell? ⟨g1, 0, none⟩ = some (.slice A0_0 l0_0.length c0_0) := (blk_cell (blk_below BK0.out HB.out) 0).trans rfl; have z1 : w18.cell? ⟨g1, 1, none⟩ = some (.int .i64 a0_1) := (blk_cell (blk_below BK0.out HB.out) 1).trans rfl; have z2 : w18.cell? ⟨g1, 2, none⟩ = some (.int .i64 a0_2) := (blk_cell (blk_below BK0.out HB.out) 2).trans rfl; have z3 : w18.cell? ⟨g1, 3, none⟩ = some (.int .i64 a0_3) := (blk_cell (blk_below BK0.out HB.out) 3).trans rfl)
  | (go_at_call 126; (with_reducible refine (manifest_Pack.number k (fun _ => True) gp _ _ _ w1 _ HB.out (fun _ _ => trivial) trivial HS.out X0.out).mono ?_); rintro e wq ⟨rfl, hs_, hb_, hk_⟩; clear HS HB z0 z1 z2 z3; have HS := Aside0.mk hs_; have HB := Aside0.mk hb_; clear hs_ hb_ hk_; have z0 : wq.cell? ⟨g1, 0, none⟩ = some (.slice A0_0 l0_0.length c0_0) := (blk_cell (blk_below BK0.out HB.out) 0).trans rfl; have z1 : wq.cell? ⟨g1, 1, none⟩ = some (.int .i64 a0_1) := (blk_cell (blk_below BK0.out HB.out) 1).trans rfl; have z2 : wq.cell? ⟨g1, 2, none⟩ = some (.int .i64 a0_2) := (blk_cell (blk_below BK0.out HB.out) 2).trans rfl; have z3 : wq.cell? ⟨g1, 3, none⟩ = some (.int .i64 a0_3) := (blk_cell (blk_below BK0.out HB.out) 3).trans rfl)
  | (go_at_call 126; (with_reducible refine (manifest_Pack.number k (fun _ => True) gp _ _ _ w1 _ HB.out (fun _ _ => trivial) trivial HS.out X1.out).mono ?_); rintro e wq ⟨rfl, hs_, hb_, hk_⟩; clear HS HB z0 z1 z2 z3; have HS := Aside0.mk hs_; have HB := Aside0.mk hb_; clear hs_ hb_ hk_; have z0 : wq.cell? ⟨g1, 0, none⟩ = some (.slice A0_0 l0_0.length c0_0) := (blk_cell (blk_below BK0.out HB.out) 0).trans rfl; have z1 : wq.cell? ⟨g1, 1, none⟩ = some (.int .i64 a0_1) := (blk_cell (blk_below BK0.out HB.out) 1).trans rfl; have z2 : wq.cell? ⟨g1, 2, none⟩ = some (.int .i64 a0_2) := (blk_cell (blk_below BK0.out HB.out) 2).trans rfl; have z3 : wq.cell? ⟨g1, 3, none⟩ = some (.int .i64 a0_3) := (blk_cell (blk_below BK0.out HB.out) 3).trans rfl)
  | (go_at_call 127; (with_reducible refine (manifest_Pack.signed k (fun _ => True) gp _ _ _ w1 _ HB.out (fun _ _ => trivial) trivial HS.out X2.out).mono ?_); rintro e wq ⟨rfl, hs_, hb_, hk_⟩; clear HS HB z0 z1 z2 z3; have HS := Aside0.mk hs_; have HB := Aside0.mk hb_; clear hs_ hb_ hk_; have z0 : wq.cell? ⟨g1, 0, none⟩ = some (.slice A0_0 l0_0.length c0_0) := (blk_cell (blk_below BK0.out HB.out) 0).trans rfl; have z1 : wq.cell? ⟨g1, 1, none⟩ = some (.int .i64 a0_1) := (blk_cell (blk_below BK0.out HB.out) 1).trans rfl; have z2 : wq.cell? ⟨g1, 2, none⟩ = some (.int .i64 a0_2) := (blk_cell (blk_below BK0.out HB.out) 2).trans rfl; have z3 : wq.cell? ⟨g1, 3, none⟩ = some (.int .i64 a0_3) := (blk_cell (blk_below BK0.out HB.out) 3).trans rfl)
  | (go_at_call 126; (with_reducible refine (manifest_Pack.number k (fun _ => True) gp _ _ _ w1 _ HB.out (fun _ _ => trivial) trivial HS.out X3.out).mono ?_); rintro e wq ⟨rfl, hs_, hb_, hk_⟩; clear HS HB z0 z1 z2 z3; have HS := Aside0.mk hs_; have HB := Aside0.mk hb_; clear hs_ hb_ hk_; have z0 : wq.cell? ⟨g1, 0, none⟩ = some (.slice A0_0 l0_0.length c0_0) := (blk_cell (blk_below BK0.out HB.out) 0).trans rfl; have z1 : wq.cell? ⟨g1, 1, none⟩ = some (.int .i64 a0_1) := (blk_cell (blk_below BK0.out HB.out) 1).trans rfl; have z2 : wq.cell? ⟨g1, 2, none⟩ = some (.int .i64 a0_2) := (blk_cell (blk_below BK0.out HB.out) 2).trans rfl; have z3 : wq.cell? ⟨g1, 3, none⟩ = some (.int .i64 a0_3) := (blk_cell (blk_below BK0.out HB.out) 3).trans rfl))
 clear z0 z1 z2 z3
 obtain ⟨N, hN⟩ : ∃ N, N = l0_0.length := ⟨_, rfl⟩
 go_loopg [43] N (fun kq v43 w' => ∃ (i : Nat) (acc : List Int), kq + i = l0_0.length ∧ v43 = .int .i64 i ∧ Aside0 (manifest_Pack.l0 k acc (l0_0.drop i) = some x4) ∧ Aside0 (manifest_Pack.WS True w' w1.heap.size (fun _ => True) gp acc) ∧ Aside0 (Below w1.heap.size w1 w'))
 case atStart => exact ⟨0, x3, by omega, rfl, X4, HS, HB⟩
 case round =>
  clear HS HB
  obtain ⟨i, acc, hk, rfl, HX, HS, HB⟩ := hrel
  clear hN
  by_cases hi : i < l0_0.length
  ·obtain ⟨k1, rfl⟩ : ∃ k1, gk = k1 + 1 := ⟨gk - 1, by omega⟩
   have hib : decide ((i : Int) < (l0_0.length : Int)) = true := decide_eq_true (by omega)
   obtain ⟨b, hb⟩ : ∃ b, b = l0_0[i] := ⟨_, rfl⟩
   have hX := HX.out
   rw [List.drop_eq_getElem_cons hi, ← hb] at hX
   unfold manifest_Pack.l0 at hX
   obtain ⟨u0, hu0, hX⟩ := Option.bind_eq_some_iff.mp hX
   have U0 := Aside0.mk hu0
   clear hu0
   obtain ⟨u1, hu1, hX⟩ := Option.bind_eq_some_iff.mp hX
   have U1 := Aside0.mk hu1
   clear hu1
   obtain ⟨u2, hu2, hX⟩ := Option.bind_eq_some_iff.mp hX
   have U2 := Aside0.mk hu2
   clear hu2
   obtain ⟨u3, hu3, hX⟩ := Option.bind_eq_some_iff.mp hX
   have U3 := Aside0.mk hu3
   clear hu3
   have HX4 := Aside0.mk hX
   clear hX HX
   obtain ⟨ad, e, hc0, hc1, hc2, hc3⟩ := at_T114 (Kd.C_below (Kd.C_below HR0.out HB1.out) HB.out) (i : Int) (by omega) (by omega)
   subst e
   have hrd : rd_T114 l0_0 (i : Int) = b := by unfold rd_T114; rw [hb]; simp [hi]
   rw [hrd, Int.toNat_natCast] at hc0
   rw [hrd, Int.toNat_natCast] at hc1
   rw [hrd, Int.toNat_natCast] at hc2
   rw [hrd, Int.toNat_natCast] at hc3
   have hK := Aside0.mk hk
   have hI := Aside0.mk hi
   clear hrd hb
   have hi0 : (0 : Int) ≤ (i : Int) := by omega
   have hi1 : (i : Int) < (l0_0.length : Int) := by omega
   clear hk hi
   go_upto_region 13 with (first
    | ((with_reducible refine gate_dst (N := 9) rfl ?_); refine box_event ?hg (N := 9) ?hd (cs := #[.int .i64 0, .int .i64 0, .int .i64 0, .int .i64 0]) (t := 114) ?hr ?_; (case hd => rfl); (case hg => rfl); (case hr => first | (go_simp; done) | (go_simp; rfl)); intro g9 hg9 w9 bk9 hb9; have hyc0 := blk_cell bk9 0; have hyc1 := blk_cell bk9 1; have hyc2 := blk_cell bk9 2; have hyc3 := blk_cell bk9 3; have hyf0 := blk_frozen bk9 0; have hyf1 := blk_frozen bk9 1; have hyf2 := blk_frozen bk9 2; have hyf3 := blk_frozen bk9 3; have y0 : w9.cell? ⟨g9, 0, none⟩ = some (.int .i64 0) := hyc0.trans rfl; have y1 : w9.cell? ⟨g9, 1, none⟩ = some (.int .i64 0) := hyc1.trans rfl; have y2 : w9.cell? ⟨g9, 2, none⟩ = some (.int .i64 0) := hyc2.trans rfl; have y3 : w9.cell? ⟨g9, 3, none⟩ = some (.int .i64 0) := hyc3.trans rfl; clear hyc0 hyc1 hyc2 hyc3; have B9 := Aside0.mk bk9; have HB9 := Aside0.mk hb9; have G9 := Aside0.mk hg9; clear bk9 hb9 hg9))
   refine XH.cwp_world ?_
   intro wb hwb
   have b9 : wb.heap[g9]? = some (.cells #[.int .i64 b.f0, .int .i64 b.f1, .int .i64 b.f2, .int .i64 b.f3] 114 (0, 0)) := by rw [hwb]; exact blk_put (blk_put (blk_put (blk_put B9.out 0 _ rfl) 1 _ rfl) 2 _ rfl) 3 _ rfl
   have hbb : Below wr.heap.size wr wb := by rw [hwb]; exact below_set (below_set (below_set (below_set HB9.out (Nat.le_of_eq G9.out.symm)) (Nat.le_of_eq G9.out.symm)) (Nat.le_of_eq G9.out.symm)) (Nat.le_of_eq G9.out.symm)
   have NG := Aside0.mk (show gp ≠ g9 by obtain ⟨⟨v_, h1_, _, _⟩, _⟩ := HS.out; have := blk_lt h1_; have := G9.out; omega)
   have HS2 := Aside0.mk ((HS.out.fresh (S' := fun k => k ≠ g9) (fun k hk _ => by have := G9.out; omega)).below hbb)
   have HB2 := Aside0.mk (below_step HB.out hbb)
   clear B9 HB9 HS HB hwb hbb hc0 hc1 hc2 hc3 y0 y1 y2 y3 hyf0 hyf1 hyf2 hyf3
   have B9 := Aside0.mk b9
   have HS := HS2
   have HB := HB2
   clear b9 HS2 HB2
   have y0 : wb.cell? ⟨g9, 0, none⟩ = some (.int .i64 b.f0) := (blk_cell B9.out 0).trans rfl
   have y1 : wb.cell? ⟨g9, 1, none⟩ = some (.int .i64 b.f1) := (blk_cell B9.out 1).trans rfl
   have y2 : wb.cell? ⟨g9, 2, none⟩ = some (.int .i64 b.f2) := (blk_cell B9.out 2).trans rfl
   have y3 : wb.cell? ⟨g9, 3, none⟩ = some (.int .i64 b.f3) := (blk_cell B9.out 3).trans rfl
   go_wp2_with (first
    | (go_at_call 126; (with_reducible refine (manifest_Pack.number k (fun k => k ≠ g9) gp _ _ _ w1 _ HB.out (fun k hk => by have := blk_lt B9.out; omega) NG.out HS.out U0.out).mono ?_); rintro e wq ⟨rfl, hs_, hb_, hk_⟩; have b9_ := Aside0.mk (blk_kept B9.out hk_ (fun h => h rfl)); clear HS HB B9 y0 y1 y2 y3; have B9 := b9_; have HS := Aside0.mk hs_; have HB := Aside0.mk hb_; clear hs_ hb_ hk_ b9_; have y0 : wq.cell? ⟨g9, 0, none⟩ = some (.int .i64 b.f0) := (blk_cell B9.out 0).trans rfl; have y1 : wq.cell? ⟨g9, 1, none⟩ = some (.int .i64 b.f1) := (blk_cell B9.out 1).trans rfl; have y2 : wq.cell? ⟨g9, 2, none⟩ = some (.int .i64 b.f2) := (blk_cell B9.out 2).trans rfl; have y3 : wq.cell? ⟨g9, 3, none⟩ = some (.int .i64 b.f3) := (blk_cell B9.out 3).trans rfl)
    | (go_at_call 126; (with_reducible refine (manifest_Pack.number k (fun k => k ≠ g9) gp _ _ _ w1 _ HB.out (fun k hk => by have := blk_lt B9.out; omega) NG.out HS.out U1.out).mono ?_); rintro e wq ⟨rfl, hs_, hb_, hk_⟩; have b9_ := Aside0.mk (blk_kept B9.out hk_ (fun h => h rfl)); clear HS HB B9 y0 y1 y2 y3; have B9 := b9_; have HS := Aside0.mk hs_; have HB := Aside0.mk hb_; clear hs_ hb_ hk_ b9_; have y0 : wq.cell? ⟨g9, 0, none⟩ = some (.int .i64 b.f0) := (blk_cell B9.out 0).trans rfl; have y1 : wq.cell? ⟨g9, 1, none⟩ = some (.int .i64 b.f1) := (blk_cell B9.out 1).trans rfl; have y2 : wq.cell? ⟨g9, 2, none⟩ = some (.int .i64 b.f2) := (blk_cell B9.out 2).trans rfl; have y3 : wq.cell? ⟨g9, 3, none⟩ = some (.int .i64 b.f3) := (blk_cell B9.out 3).trans rfl)
    | (go_at_call 127; (with_reducible refine (manifest_Pack.signed k (fun k => k ≠ g9) gp _ _ _ w1 _ HB.out (fun k hk => by have := blk_lt B9.out; omega) NG.out HS.out U2.out).mono ?_); rintro e wq ⟨rfl, hs_, hb_, hk_⟩; have b9_ := Aside0.mk (blk_kept B9.out hk_ (fun h => h rfl)); clear HS HB B9 y0 y1 y2 y3; have B9 := b9_; have HS := Aside0.mk hs_; have HB := Aside0.mk hb_; clear hs_ hb_ hk_ b9_; have y0 : wq.cell? ⟨g9, 0, none⟩ = some (.int .i64 b.f0) := (blk_cell B9.out 0).trans rfl; have y1 : wq.cell? ⟨g9, 1, none⟩ = some (.int .i64 b.f1) := (blk_cell B9.out 1).trans rfl; have y2 : wq.cell? ⟨g9, 2, none⟩ = some (.int .i64 b.f2) := (blk_cell B9.out 2).trans rfl; have y3 : wq.cell? ⟨g9, 3, none⟩ = some (.int .i64 b.f3) := (blk_cell B9.out 3).trans rfl)
    | (go_at_call 127; (with_reducible refine (manifest_Pack.signed k (fun k => k ≠ g9) gp _ _ _ w1 _ HB.out (fun k hk => by have := blk_lt B9.out; omega) NG.out HS.out U3.out).mono ?_); rintro e wq ⟨rfl, hs_, hb_, hk_⟩; have b9_ := Aside0.mk (blk_kept B9.out hk_ (fun h => h rfl)); clear HS HB B9 y0 y1 y2 y3; have B9 := b9_; have HS := Aside0.mk hs_; have HB := Aside0.mk hb_; clear hs_ hb_ hk_ b9_; have y0 : wq.cell? ⟨g9, 0, none⟩ = some (.int .i64 b.f0) := (blk_cell B9.out 0).trans rfl; have y1 : wq.cell? ⟨g9, 1, none⟩ = some (.int .i64 b.f1) := (blk_cell B9.out 1).trans rfl; have y2 : wq.cell? ⟨g9, 2, none⟩ = some (.int .i64 b.f2) := (blk_cell B9.out 2).trans rfl; have y3 : wq.cell? ⟨g9, 3, none⟩ = some (.int .i64 b.f3) := (blk_cell B9.out 3).trans rfl))
   have hk := hK.out
   have hw1 : wrap64 ((i : Int) + 1) = ((i + 1 : Nat) : Int) := by unfold wrap64; have := HR0.out.2.1; have := hI.out; omega
   go_roundg k1
   case measure => omega
   case rel =>
    refine ⟨i + 1, u3, by omega, congrArg (Value.int .i64) hw1, HX4, ⟨HS.out.fresh (fun _ _ _ => trivial)⟩, HB⟩
  ·obtain rfl : i = l0_0.length := by omega
   have hib : decide (((l0_0.length : Nat) : Int) < (l0_0.length : Int)) = false := decide_eq_false (by omega)
   have hX := HX.out
   rw [List.drop_length] at hX
   have hacc : acc = x4 := by injection hX
   subst hacc
   obtain ⟨⟨v, hbg, _, hro⟩, hgb⟩ := HS.out
   have HO := Aside0.mk (hro trivial)
   have z0 : wr.cell? ⟨gp, 0, none⟩ = some v := (blk_cell hbg 0).trans rfl
   clear hro hbg hgb hX HX HS
   go_wp2_with (first | (go_at_call 128; (with_reducible refine (block_Summed.calls k _ _ _ _ w1 _ HB.out HO.out X5.out).mono ?_); rintro e ws ⟨v5, rfl, hv5, hb5, _⟩; clear z0))
   refine bodyPost_ret (results_list (rs := [.tmp 2, .tmp 3]) (vs := [v5, .int .i64 0]) rfl (by simp) (by repeat constructor)) rfl ?_
   exact ⟨_, rfl, Kd.R_lower (Kd.R_mono hv5 (fun _ _ => trivial)) HB1.out.size, below_step HB1.out hb5⟩
end


end Go.Proofs.Ytjilnpbgclnecac.PManifestReads
