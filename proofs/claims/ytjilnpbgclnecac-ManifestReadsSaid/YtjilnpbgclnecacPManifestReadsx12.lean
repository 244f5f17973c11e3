/- Written by a program of this session out of the translation: for Go functions Lean functions of the same answers, and the proof that the calls come to these answers. -/
import Derived.WalkLawsBesides
import Derived.Test.YtjilnpbgclnecacXTight
import Derived.Test.YtjilnpbgclnecacPManifestReadsx0
import Derived.Test.YtjilnpbgclnecacPManifestReadsx8
import Derived.Test.YtjilnpbgclnecacPManifestReadsx11
namespace Go.Proofs.Ytjilnpbgclnecac.PManifestReads
open Go.RowKit Go.Proofs.YtjilnpbgclnecacW.PrintWords Go.Proofs.YtjilnpbgclnecacW.PrintLast Go.Proofs.YtjilnpbgclnecacW.PrintMore Go.Proofs.Ytjilnpbgclnecac.XB
attribute [local go_sem] sg_u8 sg_u16 sg_u32 sg_u64 mx_u8 mx_u16 mx_u32 mx_u64
attribute [local go_sem] max2_int min2_int max_two min_two max_three min_three max_four min_four   -- for this text's walks alone
set_option linter.unusedVariables false
set_option linter.unusedSimpArgs false

/-! ### lysimeterref16_ReadManifest: function 17 -/
/-- A field that is read; the state: what is left, whether it is bad. -/
def lysimeterref16_ReadManifest.num (k : Nat) (s : List Int × Bool) : Option (Int × (List Int × Bool)) :=
 (lysimeterref4_Get.f k s.1).bind fun t => if t.2.2 = 0 then (if 0 ≤ t.2.1 ∧ t.2.1 ≤ (s.1.length : Int) then some (t.1, (s.1.drop t.2.1.toNat, s.2)) else none) else some (0, (s.1, true))
def lysimeterref16_ReadManifest.sgn (k : Nat) (s : List Int × Bool) : Option (Int × (List Int × Bool)) := (lysimeterref16_ReadManifest.num k s).bind fun x => (lysimeterref4_Zag.f x.1).bind fun z => some (z, x.2)
def lysimeterref16_ReadManifest.lp (k : Nat) (n : Int) : Nat → Nat → List Int × Bool → List S114 → Option (List S114 × (List Int × Bool))
 | 0, _, s, acc => some (acc, s)
 | m + 1, i, s, acc => if (i : Int) < n ∧ s.2 = false then (lysimeterref16_ReadManifest.num k s).bind fun x0 => (lysimeterref16_ReadManifest.num k x0.2).bind fun x1 => (lysimeterref16_ReadManifest.sgn k x1.2).bind fun x2 => (lysimeterref16_ReadManifest.sgn k x2.2).bind fun x3 => lysimeterref16_ReadManifest.lp k n m (i + 1) x3.2 (acc ++ [⟨x0.1, x1.1, x2.1, x3.1⟩]) else some (acc, s)
def lysimeterref16_ReadManifest.f (k : Nat) (l0 : List Int) : Option (List S114 × Int × Int × Int × Int) :=
 if l0.length < 8 ∨ (strOfNums (l0.take 4)).toList ≠ ([76, 89, 83, 77] : List UInt8) then some ([], 0, 0, 0, 5)
 else (lysimeterref16_ReadManifest.num k ((l0.take (l0.length - 4)).drop 4, false)).bind fun x0 => (lysimeterref16_ReadManifest.num k x0.2).bind fun x1 => (lysimeterref16_ReadManifest.sgn k x1.2).bind fun x2 => (lysimeterref16_ReadManifest.num k x2.2).bind fun x3 =>
  (lysimeterref16_ReadManifest.lp k x3.1 201 0 x3.2 []).bind fun y => if y.2.2 = true then some ([], 0, 0, 0, 5)
   else (lysimeterref16_Manifest.f k y.1 x0.1 x1.1 x2.1).bind fun t => if t.2 = 0 ∧ (strOfNums t.1).toList = (strOfNums l0).toList then some (y.1, x0.1, x1.1, x2.1, 0) else some ([], 0, 0, 0, 5)
theorem lysimeterref16_ReadManifest.num_mono (s : List Int × Bool) (k : Nat) : LeO (lysimeterref16_ReadManifest.num k s) (lysimeterref16_ReadManifest.num (k + 1) s) := LeO.bind (lysimeterref4_Get.mono _ _) fun _ => LeO.refl _
theorem lysimeterref16_ReadManifest.sgn_mono (s : List Int × Bool) (k : Nat) : LeO (lysimeterref16_ReadManifest.sgn k s) (lysimeterref16_ReadManifest.sgn (k + 1) s) := LeO.bind (lysimeterref16_ReadManifest.num_mono _ _) fun _ => LeO.refl _
theorem lysimeterref16_ReadManifest.lp_mono (k : Nat) (n : Int) : ∀ m i s acc, LeO (lysimeterref16_ReadManifest.lp k n m i s acc) (lysimeterref16_ReadManifest.lp (k + 1) n m i s acc)
 | 0, _, _, _ => LeO.refl _
 | m + 1, i, s, acc => LeO.ite (LeO.bind (lysimeterref16_ReadManifest.num_mono _ _) fun _ => LeO.bind (lysimeterref16_ReadManifest.num_mono _ _) fun _ => LeO.bind (lysimeterref16_ReadManifest.sgn_mono _ _) fun _ => LeO.bind (lysimeterref16_ReadManifest.sgn_mono _ _) fun _ => lysimeterref16_ReadManifest.lp_mono k n m _ _ _) (LeO.refl _)
theorem lysimeterref16_ReadManifest.mono : ∀ a0 k, LeO (lysimeterref16_ReadManifest.f k a0) (lysimeterref16_ReadManifest.f (k + 1) a0) := by
 intro a0 k
 exact LeO.ite (LeO.refl _) (LeO.bind (lysimeterref16_ReadManifest.num_mono _ _) fun _ => LeO.bind (lysimeterref16_ReadManifest.num_mono _ _) fun _ => LeO.bind (lysimeterref16_ReadManifest.sgn_mono _ _) fun _ => LeO.bind (lysimeterref16_ReadManifest.num_mono _ _) fun _ => LeO.bind (lysimeterref16_ReadManifest.lp_mono _ _ _ _ _ _) fun _ => LeO.ite (LeO.refl _) (LeO.bind (lysimeterref16_Manifest.mono _ _ _ _ _) fun _ => LeO.refl _))
-- WALK
section
open Go.Proofs.Ytjilnpbgclnecac
/-- The reference's reader; its row lies in the world ahead of the call. -/
structure lysimeterref16_ReadManifest.RD (w0 W : World) (A : Option Addr) (c : Nat) (B : List Int) (g : Nat) (s : List Int × Bool) : Prop where
 v : ∃ p : Nat, W.heap[g]? = some (.cells #[.slice A B.length c, .int .i64 p, .bool s.2] 119 (0, 0)) ∧ p ≤ B.length ∧ s.1 = B.drop p
 r : Kd.C (Kd.int .u8) w0 A B.length B ∧ B.length ≤ c
 b : w0.heap.size ≤ g
theorem lysimeterref16_ReadManifest.RD.kept {w0 W W' : World} {A : Option Addr} {c : Nat} {B : List Int} {g : Nat} {s : List Int × Bool} {S : Nat → Prop} (h : lysimeterref16_ReadManifest.RD w0 W A c B g s) (hk : Kept W W' S) (hs : ¬ S g) : lysimeterref16_ReadManifest.RD w0 W' A c B g s := by
 obtain ⟨⟨p, h1, h2⟩, h3, h4⟩ := h
 exact ⟨⟨p, blk_kept h1 hk hs, h2⟩, h3, h4⟩
set_option maxHeartbeats 4000000 in
set_option maxRecDepth 100000 in
theorem lysimeterref16_ReadManifest.number (k : Nat) (A : Option Addr) (c : Nat) (B : List Int) (g : Nat) (s : List Int × Bool) (y : Int × (List Int × Bool)) (w0 w : World) (hB : Below w0.heap.size w0 w) (hD : lysimeterref16_ReadManifest.RD w0 w A c B g s) (h : lysimeterref16_ReadManifest.num k s = some y) :
  Calls Try.prog 76 #[.pointer (some ⟨g, 0, none⟩)] w fun e w' => e = .returned (.int .i64 y.1) ∧ lysimeterref16_ReadManifest.RD w0 w' A c B g y.2 ∧ Below w0.heap.size w0 w' ∧ Kept w w' (fun k => k = g) := by
 unfold lysimeterref16_ReadManifest.num at h
 obtain ⟨⟨n, kk, e⟩, h1, h2⟩ := Option.bind_eq_some_iff.mp h
 obtain ⟨⟨p, hb, hp, hs⟩, ⟨hC, hc⟩, hbg⟩ := hD
 obtain ⟨l, bad⟩ := s
 dsimp only at hs h1 h2 hb
 obtain ⟨i0, hi0, _, hsz0, _⟩ := info_parts info5
 have hcut := cut_from (P := Try.prog) 22 5 .i64 Try.underlying22 hi0 1 hsz0 A B.length c (p : Int) (by omega) (by omega)
 have hC2 := Kd.C_drop (m := p) hC hp hc
 rw [show (Kd.int .u8).sz = 1 from rfl] at hC2
 rw [Int.toNat_natCast] at hcut
 obtain ⟨A2, hA2⟩ : ∃ A2, (if c = p then A else A.map (·.add (p * 1))) = A2 := ⟨_, rfl⟩
 rw [hA2] at hcut hC2
 rw [← hs] at hC2
 have hln : l.length = B.length - p := by rw [hs, List.length_drop]
 rw [← hln] at hcut
 have HGET := Aside0.mk (fun (n' : Nat) => (lysimeterref4_Get.calls k A2 (c - p) l n kk e (w.drewN n') (Kd.C_drewN (Kd.C_below hC2 hB) n') (by omega) h1).mono (fun e_ w_ hh => (⟨hh.1, hh.2.out⟩ : _ ∧ _)))
 have HB := Aside0.mk hB
 have HBK := Aside0.mk hb
 have HR := Aside0.mk (show _ ∧ _ from ⟨hC, hc⟩)
 have HG := Aside0.mk hbg
 have HLN := Aside0.mk hln
 have HP := Aside0.mk hp
 have HS := Aside0.mk hs
 have H2 := Aside0.mk h2
 have z0 : w.cell? ⟨g, 0, none⟩ = some (.slice A B.length c) := (blk_cell hb 0).trans rfl
 have z1 : w.cell? ⟨g, 1, none⟩ = some (.int .i64 p) := (blk_cell hb 1).trans rfl
 have z2 : w.cell? ⟨g, 2, none⟩ = some (.bool bad) := (blk_cell hb 2).trans rfl
 have zf1 := blk_frozen hb 1
 have zf2 := blk_frozen hb 2
 have hp0 : (0 : Int) ≤ (p : Int) := by omega
 have hp1 : (p : Int) ≤ (B.length : Int) := by omega
 clear hB hb hC hc hbg hC2 hA2 hi0 hsz0 hln h1 h2 h hs hp
 go_enter Try.func76, Try.ntmps76
 by_cases he : e = 0
 ·subst he
  have heb : ((0 : Int) != 0) = false := rfl
  have h2 := H2.out
  rw [if_pos rfl] at h2
  by_cases hk : 0 ≤ kk ∧ kk ≤ (l.length : Int)
  case neg => rw [if_neg hk] at h2; cases h2
  rw [if_pos hk] at h2
  injection h2 with h2
  subst h2
  obtain ⟨m, rfl⟩ := Int.eq_ofNat_of_zero_le hk.1
  have HM := Aside0.mk (show m ≤ l.length by omega)
  clear hk
  go_wp2_with fail
  go_quiet ((first | (go_at_call 129; exact Calls.quiet_of (HGET.out _))))
  have hw1 : IntKind.i64.wrap ((p : Int) + (m : Int)) = ((p + m : Nat) : Int) := by rw [IntKind.wrap_i64]; have := HM.out; have := HLN.out; have := HR.out.1.2.1; have := HP.out; omega
  go_wp2
  go_ret
  refine ⟨rfl, ⟨⟨p + m, ?_, ?_, ?_⟩, HR.out, HG.out⟩, ?_, ?_⟩
  ·exact (blk_put (blk_drewN HBK.out nq) 1 _ rfl).trans (by rw [Int.natCast_add]; rfl)
  ·have := HM.out; have := HLN.out; have := HP.out; omega
  ·show l.drop (m : Int).toNat = _
   rw [HS.out, Int.toNat_natCast, List.drop_drop]
  ·exact (pw_below_drewN HB.out nq).setCell (p := ⟨g, 1, none⟩) HG.out _
  ·exact ((Kept.refl w (fun k => k = g)).drewN nq).setCell (p := ⟨g, 1, none⟩) (.inl rfl) _
 ·have heb : (e != 0) = true := bne_iff_ne.mpr he
  have h2 := H2.out
  rw [if_neg he] at h2
  injection h2 with h2
  subst h2
  clear he
  go_wp2_with fail
  go_quiet ((first | (go_at_call 129; exact Calls.quiet_of (HGET.out _))))
  go_wp2
  go_ret
  refine ⟨rfl, ⟨⟨p, ?_, HP.out, HS.out⟩, HR.out, HG.out⟩, ?_, ?_⟩
  ·exact blk_put (blk_drewN HBK.out nq) 2 _ rfl
  ·exact (pw_below_drewN HB.out nq).setCell (p := ⟨g, 2, none⟩) HG.out _
  ·exact ((Kept.refl w (fun k => k = g)).drewN nq).setCell (p := ⟨g, 2, none⟩) (.inl rfl) _
theorem lysimeterref16_ReadManifest.signed (k : Nat) (A : Option Addr) (c : Nat) (B : List Int) (g : Nat) (s : List Int × Bool) (y : Int × (List Int × Bool)) (w0 w : World) (hB : Below w0.heap.size w0 w) (hD : lysimeterref16_ReadManifest.RD w0 w A c B g s) (h : lysimeterref16_ReadManifest.sgn k s = some y) :
  Calls Try.prog 77 #[.pointer (some ⟨g, 0, none⟩)] w fun e w' => e = .returned (.int .i64 y.1) ∧ lysimeterref16_ReadManifest.RD w0 w' A c B g y.2 ∧ Below w0.heap.size w0 w' ∧ Kept w w' (fun k => k = g) := by
 unfold lysimeterref16_ReadManifest.sgn at h
 obtain ⟨x, h1, h⟩ := Option.bind_eq_some_iff.mp h
 obtain ⟨z, h2, h3⟩ := Option.bind_eq_some_iff.mp h
 injection h3 with h3
 subst h3
 have HN := Aside0.mk (lysimeterref16_ReadManifest.number k A c B g s x w0 w hB hD h1)
 have HZ := Aside0.mk h2
 clear hB hD h1 h2 h
 go_enter Try.func77, Try.ntmps77
 go_wp2_with (first
  | (go_at_call 76; (with_reducible refine HN.out.mono ?_); rintro e w1 ⟨rfl, h1, h2, h3⟩; have H1 := Aside0.mk h1; have H2 := Aside0.mk h2; have H3 := Aside0.mk h3; clear h1 h2 h3)
  | (go_at_call 130; (with_reducible refine (lysimeterref4_Zag.calls _ z _ HZ.out).mono ?_); rintro e w2 ⟨rfl, hd⟩; have HD := Aside0.mk hd; clear hd))
 go_ret
 exact ⟨rfl, H1.out.kept ((Kept.refl w1 (fun _ => False)).below HD.out.below) (fun h => h), below_step H2.out HD.out.below, H3.out.below HD.out.below⟩
def lysimeterref16_ReadManifest.Post (w : World) (r1 : List S114) (r2 r3 r4 r5 : Int) (e : Ending) (w' : World) : Prop :=
 ∃ v0_ : Value, e = .returned (.tuple #[.agg #[v0_, .int .i64 r2, .int .i64 r3, .int .i64 r4], .int .i64 r5]) ∧ Kd.R k114 114 w' w.heap.size (fun _ => True) v0_ r1 ∧ Below w.heap.size w w'
/-- The way out with a manifest that lies in block a. -/
theorem lysimeterref16_ReadManifest.out_ (a : Nat) (v : Value) (l : List S114) (v0 v1 v2 y : Int) (tmps : Array Value) (w W : World) (ha : W.heap[a]? = some (.cells #[v, .int .i64 v0, .int .i64 v1, .int .i64 v2] 26 (0, 0))) (hB : Below w.heap.size w W) (hR : Kd.R k114 114 W w.heap.size (fun _ => True) v l)
  (t2 : (tmps[2]?.getD undef) = .pointer (some ⟨a, 0, none⟩)) (t3 : (tmps[3]?.getD undef) = .int .i64 y) :
  bodyPost Try.prog Try.f17 (lysimeterref16_ReadManifest.Post w l v0 v1 v2 y) Exit.ret { tmps := tmps, defers := [] } W := by
 have hu26 := Try.underlying26
 have e0 : W.cell? ⟨a, 0, none⟩ = some v := (blk_cell ha 0).trans rfl
 have e1 : W.cell? ⟨a, 1, none⟩ = some (.int .i64 v0) := (blk_cell ha 1).trans rfl
 have e2 : W.cell? ⟨a, 2, none⟩ = some (.int .i64 v1) := (blk_cell ha 2).trans rfl
 have e3 : W.cell? ⟨a, 3, none⟩ = some (.int .i64 v2) := (blk_cell ha 3).trans rfl
 refine bodyPost_ret (v := .tuple #[.agg #[v, .int .i64 v0, .int .i64 v1, .int .i64 v2], .int .i64 y]) ?_ rfl ⟨v, rfl, hR, hB⟩
 simp [results, Try.results17, go_sem, t2, t3, e0, e1, e2, e3, hu26]
theorem lysimeterref16_ReadManifest.fail_ (a : Nat) (cs : Array Value) (tmps : Array Value) (w W : World) (hcs : cs.size = 4) (ha : W.heap[a]? = some (.cells cs 26 (0, 0))) (hwa : w.heap.size ≤ a) (hB : Below w.heap.size w W)
  (t2 : (tmps[2]?.getD undef) = .pointer (some ⟨a, 0, none⟩)) (t3 : (tmps[3]?.getD undef) = .int .i64 5) :
  bodyPost Try.prog Try.f17 (lysimeterref16_ReadManifest.Post w [] 0 0 0 5) Exit.ret { tmps := tmps, defers := [] } ((((W.setCell ⟨a, 0, none⟩ (.slice none 0 0)).setCell ⟨a, 1, none⟩ (.int .i64 0)).setCell ⟨a, 2, none⟩ (.int .i64 0)).setCell ⟨a, 3, none⟩ (.int .i64 0)) := by
 obtain ⟨m0, m1, m2, m3, rfl⟩ : ∃ m0 m1 m2 m3, cs = #[m0, m1, m2, m3] := by
  rcases cs with ⟨l⟩
  match l, hcs with
  | [a, b, c, d], _ => exact ⟨a, b, c, d, rfl⟩
 have k0 : (W.setCell ⟨a, 0, none⟩ (.slice none 0 0)).heap[a]? = some (.cells #[.slice none 0 0, m1, m2, m3] 26 (0, 0)) := blk_put ha 0 _ rfl
 have b0 := hB.setCell (p := ⟨a, 0, none⟩) hwa (.slice none 0 0)
 generalize W.setCell ⟨a, 0, none⟩ (.slice none 0 0) = W0 at k0 b0 ⊢
 have k1 : (W0.setCell ⟨a, 1, none⟩ (.int .i64 0)).heap[a]? = some (.cells #[.slice none 0 0, .int .i64 0, m2, m3] 26 (0, 0)) := blk_put k0 1 _ rfl
 have b1 := b0.setCell (p := ⟨a, 1, none⟩) hwa (.int .i64 0)
 generalize W0.setCell ⟨a, 1, none⟩ (.int .i64 0) = W1 at k1 b1 ⊢
 have k2 : (W1.setCell ⟨a, 2, none⟩ (.int .i64 0)).heap[a]? = some (.cells #[.slice none 0 0, .int .i64 0, .int .i64 0, m3] 26 (0, 0)) := blk_put k1 2 _ rfl
 have b2 := b1.setCell (p := ⟨a, 2, none⟩) hwa (.int .i64 0)
 generalize W1.setCell ⟨a, 2, none⟩ (.int .i64 0) = W2 at k2 b2 ⊢
 have k3 : (W2.setCell ⟨a, 3, none⟩ (.int .i64 0)).heap[a]? = some (.cells #[.slice none 0 0, .int .i64 0, .int .i64 0, .int .i64 0] 26 (0, 0)) := blk_put k2 3 _ rfl
 have b3 := b2.setCell (p := ⟨a, 3, none⟩) hwa (.int .i64 0)
 exact lysimeterref16_ReadManifest.out_ a _ [] 0 0 0 5 tmps w _ k3 b3 (Kd.R_nil _ _ _ _ _) t2 t3
theorem lysimeterref16_ReadManifest.good_ (a : Nat) (cs : Array Value) (v : Value) (l : List S114) (v0 v1 v2 : Int) (tmps : Array Value) (w W : World) (hcs : cs.size = 4) (ha : W.heap[a]? = some (.cells cs 26 (0, 0))) (hwa : w.heap.size ≤ a) (hB : Below w.heap.size w W)
  (hR : Kd.R k114 114 W w.heap.size (fun k => k ≠ a) v l) (t2 : (tmps[2]?.getD undef) = .pointer (some ⟨a, 0, none⟩)) (t3 : (tmps[3]?.getD undef) = .int .i64 0) :
  bodyPost Try.prog Try.f17 (lysimeterref16_ReadManifest.Post w l v0 v1 v2 0) Exit.ret { tmps := tmps, defers := [] } ((((W.setCell ⟨a, 0, none⟩ v).setCell ⟨a, 1, none⟩ (.int .i64 v0)).setCell ⟨a, 2, none⟩ (.int .i64 v1)).setCell ⟨a, 3, none⟩ (.int .i64 v2)) := by
 obtain ⟨m0, m1, m2, m3, rfl⟩ : ∃ m0 m1 m2 m3, cs = #[m0, m1, m2, m3] := by
  rcases cs with ⟨l⟩
  match l, hcs with
  | [a, b, c, d], _ => exact ⟨a, b, c, d, rfl⟩
 have k0 : (W.setCell ⟨a, 0, none⟩ (v)).heap[a]? = some (.cells #[v, m1, m2, m3] 26 (0, 0)) := blk_put ha 0 _ rfl
 have b0 := hB.setCell (p := ⟨a, 0, none⟩) hwa (v)
 have r0 := Kd.R_far (p := ⟨a, 0, none⟩) hR (fun _ hk => hk) (v)
 generalize W.setCell ⟨a, 0, none⟩ (v) = W0 at k0 b0 r0 ⊢
 have k1 : (W0.setCell ⟨a, 1, none⟩ (.int .i64 v0)).heap[a]? = some (.cells #[v, .int .i64 v0, m2, m3] 26 (0, 0)) := blk_put k0 1 _ rfl
 have b1 := b0.setCell (p := ⟨a, 1, none⟩) hwa (.int .i64 v0)
 have r1 := Kd.R_far (p := ⟨a, 1, none⟩) r0 (fun _ hk => hk) (.int .i64 v0)
 generalize W0.setCell ⟨a, 1, none⟩ (.int .i64 v0) = W1 at k1 b1 r1 ⊢
 have k2 : (W1.setCell ⟨a, 2, none⟩ (.int .i64 v1)).heap[a]? = some (.cells #[v, .int .i64 v0, .int .i64 v1, m3] 26 (0, 0)) := blk_put k1 2 _ rfl
 have b2 := b1.setCell (p := ⟨a, 2, none⟩) hwa (.int .i64 v1)
 have r2 := Kd.R_far (p := ⟨a, 2, none⟩) r1 (fun _ hk => hk) (.int .i64 v1)
 generalize W1.setCell ⟨a, 2, none⟩ (.int .i64 v1) = W2 at k2 b2 r2 ⊢
 have k3 : (W2.setCell ⟨a, 3, none⟩ (.int .i64 v2)).heap[a]? = some (.cells #[v, .int .i64 v0, .int .i64 v1, .int .i64 v2] 26 (0, 0)) := blk_put k2 3 _ rfl
 have b3 := b2.setCell (p := ⟨a, 3, none⟩) hwa (.int .i64 v2)
 have r3 := Kd.R_far (p := ⟨a, 3, none⟩) r2 (fun _ hk => hk) (.int .i64 v2)
 exact lysimeterref16_ReadManifest.out_ a _ l v0 v1 v2 0 tmps w _ k3 b3 (Kd.R_mono r3 (fun _ _ => trivial)) t2 t3
set_option maxHeartbeats 8000000 in
set_option maxRecDepth 100000 in
theorem lysimeterref16_ReadManifest.calls (k : Nat) (A0 : Option Addr) (c0 : Nat) (l0 : List Int) (r1 : List S114) (r2 r3 r4 r5 : Int) (w : World) (hr0 : Kd.C (Kd.int .u8) w A0 l0.length l0) (hc0 : l0.length ≤ c0) (h : lysimeterref16_ReadManifest.f k l0 = some (r1, r2, r3, r4, r5)) :
  Calls Try.prog 17 #[.slice A0 l0.length c0] w fun e w' => ∃ v0_ : Value, e = .returned (.tuple #[.agg #[v0_, .int .i64 r2, .int .i64 r3, .int .i64 r4], .int .i64 r5]) ∧ Kd.R k114 114 w' w.heap.size (fun _ => True) v0_ r1 ∧ Below w.heap.size w w' := by
 show Calls _ _ _ _ (lysimeterref16_ReadManifest.Post w r1 r2 r3 r4 r5)
 have hu26 := Try.underlying26
 have hu114 := Try.underlying114
 have CR := Aside0.mk hr0
 have HC := Aside0.mk hc0
 have H := Aside0.mk h
 clear hr0 hc0 h
 go_enter Try.func17, Try.ntmps17
 go_upto_region 2 with fail
 obtain ⟨W, hW⟩ : ∃ W, ((w.alloc (.cells #[.slice none 0 0, .int .i64 0, .int .i64 0, .int .i64 0] 26)).alloc (.cells #[.slice none 0 0, .int .i64 0, .int .i64 0, .int .i64 0] 26)) = W := ⟨_, rfl⟩
 have HB := Aside0.mk (show Below w.heap.size w W by rw [← hW]; exact below_alloc (below_alloc (Below.refl _ _) _) _)
 have BA := Aside0.mk (show W.heap[w.heap.size]? = some (.cells #[.slice none 0 0, .int .i64 0, .int .i64 0, .int .i64 0] 26 (0, 0)) by rw [← hW]; exact blk_alloc (blk_new w _) _)
 have BM := Aside0.mk (show W.heap[w.heap.size + 1]? = some (.cells #[.slice none 0 0, .int .i64 0, .int .i64 0, .int .i64 0] 26 (0, 0)) by rw [← hW]; have z := blk_new (w.alloc (.cells #[.slice none 0 0, .int .i64 0, .int .i64 0, .int .i64 0] 26)) (.cells #[.slice none 0 0, .int .i64 0, .int .i64 0, .int .i64 0] 26); rw [World.size_alloc] at z; exact z)
 obtain ⟨a, ea⟩ : ∃ a, a = w.heap.size := ⟨_, rfl⟩
 obtain ⟨m, em⟩ : ∃ m, m = w.heap.size + 1 := ⟨_, rfl⟩
 rw [hW, ← em, ← ea]
 rw [← ea] at BA
 rw [← em] at BM
 have GA := Aside0.mk (show w.heap.size ≤ a by omega)
 have GM := Aside0.mk (show w.heap.size ≤ m by omega)
 have AM := Aside0.mk (show a ≠ m by omega)
 clear ea em hW
 have H0 := H.out
 unfold lysimeterref16_ReadManifest.f at H0
 clear H
 by_cases h8 : l0.length < 8
 case pos =>
  rw [if_pos (.inl h8)] at H0
  have d1 : decide ((l0.length : Int) < 8) = true := decide_eq_true (by omega)
  clear h8
  have zm0 : W.cell? ⟨m, 0, none⟩ = some (.slice none 0 0) := (blk_cell BM.out 0).trans rfl
  have zm1 : W.cell? ⟨m, 1, none⟩ = some (.int .i64 0) := (blk_cell BM.out 1).trans rfl
  have zm2 : W.cell? ⟨m, 2, none⟩ = some (.int .i64 0) := (blk_cell BM.out 2).trans rfl
  have zm3 : W.cell? ⟨m, 3, none⟩ = some (.int .i64 0) := (blk_cell BM.out 3).trans rfl
  have za0 : W.cell? ⟨a, 0, none⟩ = some (.slice none 0 0) := (blk_cell BA.out 0).trans rfl
  have za1 : W.cell? ⟨a, 1, none⟩ = some (.int .i64 0) := (blk_cell BA.out 1).trans rfl
  have za2 : W.cell? ⟨a, 2, none⟩ = some (.int .i64 0) := (blk_cell BA.out 2).trans rfl
  have za3 : W.cell? ⟨a, 3, none⟩ = some (.int .i64 0) := (blk_cell BA.out 3).trans rfl
  have zf0 := blk_frozen BA.out 0
  have zf1 := blk_frozen BA.out 1
  have zf2 := blk_frozen BA.out 2
  have zf3 := blk_frozen BA.out 3
  go_wp2_with fail
  simp only [Option.some.injEq, Prod.mk.injEq] at H0
  obtain ⟨rfl, rfl, rfl, rfl, rfl⟩ := H0
  exact lysimeterref16_ReadManifest.fail_ a _ _ w _ rfl BA.out GA.out HB.out rfl rfl
 case neg =>
 have d1 : decide ((l0.length : Int) < 8) = false := decide_eq_false (by omega)
 obtain ⟨i0, hi0, _, hsz0, _⟩ := info_parts info5
 have hcut := cut_to (P := Try.prog) 22 5 .i64 Try.underlying22 hi0 A0 l0.length c0 4 (by decide) (by omega) HC.out
 rw [show (4 : Int).toNat = 4 from rfl] at hcut
 have hst := Kd.C_string (P := Try.prog) (A := A0) (c := c0) Try.underlying22 Try.underlying5 Try.underlying9 (Kd.C_below (Kd.C_take (m := 4) CR.out (by omega)) HB.out)
 rw [show (l0.take 4).length = 4 by rw [List.length_take]; omega] at hst
 obtain ⟨q4, hq4⟩ : ∃ q, q = strOfNums (l0.take 4) := ⟨_, rfl⟩
 rw [← hq4] at hst
 have Q4 := Aside0.mk hq4
 clear hq4
 have H8 := Aside0.mk h8
 clear h8
 by_cases hq : q4.toList = [76, 89, 83, 77]
 case neg =>
  have hqb : (q4.toList == [76, 89, 83, 77]) = false := beq_eq_false_iff_ne.mpr hq
  rw [if_pos (.inr (by rw [← Q4.out]; exact hq))] at H0
  clear hq
  have zm0 : W.cell? ⟨m, 0, none⟩ = some (.slice none 0 0) := (blk_cell BM.out 0).trans rfl
  have zm1 : W.cell? ⟨m, 1, none⟩ = some (.int .i64 0) := (blk_cell BM.out 1).trans rfl
  have zm2 : W.cell? ⟨m, 2, none⟩ = some (.int .i64 0) := (blk_cell BM.out 2).trans rfl
  have zm3 : W.cell? ⟨m, 3, none⟩ = some (.int .i64 0) := (blk_cell BM.out 3).trans rfl
  have za0 : W.cell? ⟨a, 0, none⟩ = some (.slice none 0 0) := (blk_cell BA.out 0).trans rfl
  have za1 : W.cell? ⟨a, 1, none⟩ = some (.int .i64 0) := (blk_cell BA.out 1).trans rfl
  have za2 : W.cell? ⟨a, 2, none⟩ = some (.int .i64 0) := (blk_cell BA.out 2).trans rfl
  have za3 : W.cell? ⟨a, 3, none⟩ = some (.int .i64 0) := (blk_cell BA.out 3).trans rfl
  have zf0 := blk_frozen BA.out 0
  have zf1 := blk_frozen BA.out 1
  have zf2 := blk_frozen BA.out 2
  have zf3 := blk_frozen BA.out 3
  go_wp2_with fail
  simp only [Option.some.injEq, Prod.mk.injEq] at H0
  obtain ⟨rfl, rfl, rfl, rfl, rfl⟩ := H0
  exact lysimeterref16_ReadManifest.fail_ a _ _ w _ rfl BA.out GA.out HB.out rfl rfl
 case pos =>
 have hqb : (q4.toList == [76, 89, 83, 77]) = true := beq_iff_eq.mpr hq
 rw [if_neg (fun h => h.elim H8.out (fun h => h (by rw [← Q4.out]; exact hq)))] at H0
 clear hq
 go_upto_region 4 with fail
 obtain ⟨i0', hi0', _, hsz0', _⟩ := info_parts info5
 clear hcut hst
 obtain ⟨nb, hnb⟩ : ∃ nb : Nat, nb = l0.length - 4 := ⟨_, rfl⟩
 have hn4 : (l0.length : Int) - 4 = (nb : Int) := by have := H8.out; omega
 have hw4 : IntKind.i64.wrap ((l0.length : Int) - 4) = (nb : Int) := by rw [hn4, IntKind.wrap_i64]; have := CR.out.2.1; omega
 have hw5 : wrap64 ((l0.length : Int) - 4) = (nb : Int) := by rw [hn4]; have := CR.out.2.1; unfold wrap64; omega
 have hcut2 := cut_to (P := Try.prog) 22 5 .i64 Try.underlying22 hi0' A0 l0.length c0 (nb : Int) (by omega) (by omega) HC.out
 rw [Int.toNat_natCast] at hcut2
 have CB := Aside0.mk (Kd.C_take (m := nb) CR.out (by omega))
 have LB := Aside0.mk (show (l0.take nb).length = nb by rw [List.length_take]; omega)
 have NB4 := Aside0.mk (show 4 ≤ nb ∧ nb ≤ c0 by have := H8.out; have := HC.out; omega)
 rw [← hnb] at H0
 clear hnb hi0' hsz0' hn4
 go_upto_region 5 with (first
  | ((with_reducible refine gate_dst (N := 27) rfl ?_); refine box_event ?hg (N := 27) ?hd (cs := #[.slice A0 nb c0, .int .i64 4, .bool false]) (t := 119) ?hr ?_; (case hd => rfl); (case hg => rfl); (case hr => first | (go_simp; done) | (go_simp; rfl)); intro gr hgr w4 bk_ hb_; have AR := Aside0.mk (show a ≠ gr by have := blk_lt BA.out; omega); have MR := Aside0.mk (show m ≠ gr by have := blk_lt BM.out; omega); have RD := Aside0.mk (lysimeterref16_ReadManifest.RD.mk (w0 := w) (W := w4) (A := A0) (c := c0) (B := l0.take nb) (g := gr) (s := ((l0.take nb).drop 4, false)) ⟨4, (by rw [LB.out]; exact bk_), (by rw [LB.out]; exact NB4.out.1), rfl⟩ ⟨CB.out, (by rw [LB.out]; exact NB4.out.2)⟩ (by rw [hgr]; exact below_size HB.out)); have n0_ := Aside0.mk (blk_below BA.out hb_); have n1_ := Aside0.mk (blk_below BM.out hb_); have n2_ := Aside0.mk (below_step HB.out hb_); clear BA BM HB hb_ bk_ hgr; have BA := n0_; have BM := n1_; have HB := n2_; clear n0_ n1_ n2_))
 clear hcut2 hw4 hw5
 obtain ⟨⟨v0, s0⟩, hy0, H1⟩ := Option.bind_eq_some_iff.mp H0
 have Y0 := Aside0.mk hy0
 clear hy0 H0
 have H0 := H1
 clear H1
 dsimp only at H0
 go_upto_region 6 with (first
  | (go_at_call 76; (with_reducible refine (lysimeterref16_ReadManifest.number k A0 c0 (l0.take nb) gr ((l0.take nb).drop 4, false) (v0, s0) w _ HB.out RD.out Y0.out).mono ?_); rintro e wq0 ⟨rfl, hd_, hb_, hk_⟩; have n0_ := Aside0.mk (blk_kept BA.out hk_ (fun h => AR.out h)); have n1_ := Aside0.mk (blk_kept BM.out hk_ (fun h => MR.out h)); clear BA BM HB RD; have BA := n0_; have BM := n1_; have HB := Aside0.mk hb_; have RD := Aside0.mk hd_; clear n0_ n1_ hb_ hk_ hd_; have zm0 : wq0.cell? ⟨m, 0, none⟩ = some (.slice none 0 0) := (blk_cell BM.out 0).trans rfl; have zmf0 := blk_frozen BM.out 0; have zm1 : wq0.cell? ⟨m, 1, none⟩ = some (.int .i64 0) := (blk_cell BM.out 1).trans rfl; have zmf1 := blk_frozen BM.out 1; have zm2 : wq0.cell? ⟨m, 2, none⟩ = some (.int .i64 0) := (blk_cell BM.out 2).trans rfl; have zmf2 := blk_frozen BM.out 2; have zm3 : wq0.cell? ⟨m, 3, none⟩ = some (.int .i64 0) := (blk_cell BM.out 3).trans rfl; have zmf3 := blk_frozen BM.out 3))
 refine XH.cwp_world ?_
 intro wn0 hwn
 have bm_ : wn0.heap[m]? = some (.cells #[.slice none 0 0, .int .i64 v0, .int .i64 0, .int .i64 0] 26 (0, 0)) := by rw [hwn]; exact blk_put BM.out 1 _ rfl
 have ba_ : wn0.heap[a]? = some (.cells #[.slice none 0 0, .int .i64 0, .int .i64 0, .int .i64 0] 26 (0, 0)) := by rw [hwn]; exact blk_far BA.out (p := ⟨m, 1, none⟩) AM.out _
 have hb_ : Below w.heap.size w wn0 := by rw [hwn]; exact below_set HB.out GM.out
 have rd_ : lysimeterref16_ReadManifest.RD w wn0 A0 c0 (l0.take nb) gr s0 := by
  obtain ⟨⟨p_, g1_, g2_⟩, g3_, g4_⟩ := RD.out
  exact ⟨⟨p_, by rw [hwn]; exact blk_far g1_ (p := ⟨m, 1, none⟩) (Ne.symm MR.out) _, g2_⟩, g3_, g4_⟩
 clear BA BM HB RD hwn zm0 zmf0 zm1 zmf1 zm2 zmf2 zm3 zmf3
 have BM := Aside0.mk bm_
 have BA := Aside0.mk ba_
 have HB := Aside0.mk hb_
 have RD := Aside0.mk rd_
 clear bm_ ba_ hb_ rd_
 obtain ⟨⟨v1, s1⟩, hy1, H1⟩ := Option.bind_eq_some_iff.mp H0
 have Y1 := Aside0.mk hy1
 clear hy1 H0
 have H0 := H1
 clear H1
 dsimp only at H0
 go_upto_region 7 with (first
  | (go_at_call 76; (with_reducible refine (lysimeterref16_ReadManifest.number k A0 c0 (l0.take nb) gr s0 (v1, s1) w _ HB.out RD.out Y1.out).mono ?_); rintro e wq1 ⟨rfl, hd_, hb_, hk_⟩; have n0_ := Aside0.mk (blk_kept BA.out hk_ (fun h => AR.out h)); have n1_ := Aside0.mk (blk_kept BM.out hk_ (fun h => MR.out h)); clear BA BM HB RD; have BA := n0_; have BM := n1_; have HB := Aside0.mk hb_; have RD := Aside0.mk hd_; clear n0_ n1_ hb_ hk_ hd_; have zm0 : wq1.cell? ⟨m, 0, none⟩ = some (.slice none 0 0) := (blk_cell BM.out 0).trans rfl; have zmf0 := blk_frozen BM.out 0; have zm1 : wq1.cell? ⟨m, 1, none⟩ = some (.int .i64 v0) := (blk_cell BM.out 1).trans rfl; have zmf1 := blk_frozen BM.out 1; have zm2 : wq1.cell? ⟨m, 2, none⟩ = some (.int .i64 0) := (blk_cell BM.out 2).trans rfl; have zmf2 := blk_frozen BM.out 2; have zm3 : wq1.cell? ⟨m, 3, none⟩ = some (.int .i64 0) := (blk_cell BM.out 3).trans rfl; have zmf3 := blk_frozen BM.out 3))
 refine XH.cwp_world ?_
 intro wn1 hwn
 have bm_ : wn1.heap[m]? = some (.cells #[.slice none 0 0, .int .i64 v0, .int .i64 v1, .int .i64 0] 26 (0, 0)) := by rw [hwn]; exact blk_put BM.out 2 _ rfl
 have ba_ : wn1.heap[a]? = some (.cells #[.slice none 0 0, .int .i64 0, .int .i64 0, .int .i64 0] 26 (0, 0)) := by rw [hwn]; exact blk_far BA.out (p := ⟨m, 2, none⟩) AM.out _
 have hb_ : Below w.heap.size w wn1 := by rw [hwn]; exact below_set HB.out GM.out
 have rd_ : lysimeterref16_ReadManifest.RD w wn1 A0 c0 (l0.take nb) gr s1 := by
  obtain ⟨⟨p_, g1_, g2_⟩, g3_, g4_⟩ := RD.out
  exact ⟨⟨p_, by rw [hwn]; exact blk_far g1_ (p := ⟨m, 2, none⟩) (Ne.symm MR.out) _, g2_⟩, g3_, g4_⟩
 clear BA BM HB RD hwn zm0 zmf0 zm1 zmf1 zm2 zmf2 zm3 zmf3
 have BM := Aside0.mk bm_
 have BA := Aside0.mk ba_
 have HB := Aside0.mk hb_
 have RD := Aside0.mk rd_
 clear bm_ ba_ hb_ rd_
 obtain ⟨⟨v2, s2⟩, hy2, H1⟩ := Option.bind_eq_some_iff.mp H0
 have Y2 := Aside0.mk hy2
 clear hy2 H0
 have H0 := H1
 clear H1
 dsimp only at H0
 go_upto_region 8 with (first
  | (go_at_call 77; (with_reducible refine (lysimeterref16_ReadManifest.signed k A0 c0 (l0.take nb) gr s1 (v2, s2) w _ HB.out RD.out Y2.out).mono ?_); rintro e wq2 ⟨rfl, hd_, hb_, hk_⟩; have n0_ := Aside0.mk (blk_kept BA.out hk_ (fun h => AR.out h)); have n1_ := Aside0.mk (blk_kept BM.out hk_ (fun h => MR.out h)); clear BA BM HB RD; have BA := n0_; have BM := n1_; have HB := Aside0.mk hb_; have RD := Aside0.mk hd_; clear n0_ n1_ hb_ hk_ hd_; have zm0 : wq2.cell? ⟨m, 0, none⟩ = some (.slice none 0 0) := (blk_cell BM.out 0).trans rfl; have zmf0 := blk_frozen BM.out 0; have zm1 : wq2.cell? ⟨m, 1, none⟩ = some (.int .i64 v0) := (blk_cell BM.out 1).trans rfl; have zmf1 := blk_frozen BM.out 1; have zm2 : wq2.cell? ⟨m, 2, none⟩ = some (.int .i64 v1) := (blk_cell BM.out 2).trans rfl; have zmf2 := blk_frozen BM.out 2; have zm3 : wq2.cell? ⟨m, 3, none⟩ = some (.int .i64 0) := (blk_cell BM.out 3).trans rfl; have zmf3 := blk_frozen BM.out 3))
 refine XH.cwp_world ?_
 intro wn2 hwn
 have bm_ : wn2.heap[m]? = some (.cells #[.slice none 0 0, .int .i64 v0, .int .i64 v1, .int .i64 v2] 26 (0, 0)) := by rw [hwn]; exact blk_put BM.out 3 _ rfl
 have ba_ : wn2.heap[a]? = some (.cells #[.slice none 0 0, .int .i64 0, .int .i64 0, .int .i64 0] 26 (0, 0)) := by rw [hwn]; exact blk_far BA.out (p := ⟨m, 3, none⟩) AM.out _
 have hb_ : Below w.heap.size w wn2 := by rw [hwn]; exact below_set HB.out GM.out
 have rd_ : lysimeterref16_ReadManifest.RD w wn2 A0 c0 (l0.take nb) gr s2 := by
  obtain ⟨⟨p_, g1_, g2_⟩, g3_, g4_⟩ := RD.out
  exact ⟨⟨p_, by rw [hwn]; exact blk_far g1_ (p := ⟨m, 3, none⟩) (Ne.symm MR.out) _, g2_⟩, g3_, g4_⟩
 clear BA BM HB RD hwn zm0 zmf0 zm1 zmf1 zm2 zmf2 zm3 zmf3
 have BM := Aside0.mk bm_
 have BA := Aside0.mk ba_
 have HB := Aside0.mk hb_
 have RD := Aside0.mk rd_
 clear bm_ ba_ hb_ rd_
 obtain ⟨⟨v3, s3⟩, hy3, H1⟩ := Option.bind_eq_some_iff.mp H0
 have Y3 := Aside0.mk hy3
 clear hy3 H0
 have H0 := H1
 clear H1
 dsimp only at H0
 go_upto_region 9 with (first
  | (go_at_call 76; (with_reducible refine (lysimeterref16_ReadManifest.number k A0 c0 (l0.take nb) gr s2 (v3, s3) w _ HB.out RD.out Y3.out).mono ?_); rintro e wq3 ⟨rfl, hd_, hb_, hk_⟩; have n0_ := Aside0.mk (blk_kept BA.out hk_ (fun h => AR.out h)); have n1_ := Aside0.mk (blk_kept BM.out hk_ (fun h => MR.out h)); clear BA BM HB RD; have BA := n0_; have BM := n1_; have HB := Aside0.mk hb_; have RD := Aside0.mk hd_; clear n0_ n1_ hb_ hk_ hd_; have zm0 : wq3.cell? ⟨m, 0, none⟩ = some (.slice none 0 0) := (blk_cell BM.out 0).trans rfl; have zmf0 := blk_frozen BM.out 0; have zm1 : wq3.cell? ⟨m, 1, none⟩ = some (.int .i64 v0) := (blk_cell BM.out 1).trans rfl; have zmf1 := blk_frozen BM.out 1; have zm2 : wq3.cell? ⟨m, 2, none⟩ = some (.int .i64 v1) := (blk_cell BM.out 2).trans rfl; have zmf2 := blk_frozen BM.out 2; have zm3 : wq3.cell? ⟨m, 3, none⟩ = some (.int .i64 v2) := (blk_cell BM.out 3).trans rfl; have zmf3 := blk_frozen BM.out 3))
 clear zm0 zmf0 zm1 zmf1 zm2 zmf2 zm3 zmf3
 obtain ⟨y0, hy0, H1⟩ := Option.bind_eq_some_iff.mp H0
 have HLP := Aside0.mk hy0
 have HE := Aside0.mk H1
 clear H0 H1 hy0
 go_wp2_with fail
 go_loopg [7] 201 (fun kq v7 w' => ∃ (i : Nat) (s : List Int × Bool) (acc : List S114) (v : Value), kq + i = 201 ∧ v7 = .int .i64 i ∧ Aside0 (lysimeterref16_ReadManifest.lp k v3 kq i s acc = some y0) ∧ Aside0 (w'.heap[m]? = some (.cells #[v, .int .i64 v0, .int .i64 v1, .int .i64 v2] 26 (0, 0))) ∧ Aside0 (Kd.R k114 114 w' w.heap.size (fun k => k ≠ a ∧ k ≠ m ∧ k ≠ gr) v acc) ∧ Aside0 (acc.length = i) ∧ Aside0 (w'.heap[a]? = some (.cells #[.slice none 0 0, .int .i64 0, .int .i64 0, .int .i64 0] 26 (0, 0))) ∧ Aside0 (lysimeterref16_ReadManifest.RD w w' A0 c0 (l0.take nb) gr s) ∧ Aside0 (Below w.heap.size w w'))
 case atStart => exact ⟨0, s3, [], .slice none 0 0, by omega, rfl, HLP, BM, ⟨Kd.R_nil _ _ _ _ _⟩, ⟨rfl⟩, BA, RD, HB⟩
 case round =>
  clear HLP BA BM RD HB
  obtain ⟨i, s, acc, v, hk, rfl, HLP, BM, AC, HAL, BA, RD, HB⟩ := hrel
  obtain ⟨⟨p, hbg, hp, hs⟩, hr_, hgg⟩ := RD.out
  have zb2 : wr.cell? ⟨gr, 2, none⟩ = some (.bool s.2) := (blk_cell hbg 2).trans rfl
  clear hbg hp hs hr_ hgg
  by_cases hc : (i : Int) < v3 ∧ s.2 = false ∧ i < 201
  case pos =>
   obtain ⟨k1, rfl⟩ : ∃ k1, gk = k1 + 1 := ⟨gk - 1, by omega⟩
   have c1 : decide ((i : Int) < v3) = true := decide_eq_true hc.1
   have c1' := hc.1
   have c2 := hc.2.1
   have c3 : decide ((i : Int) < 201) = true := decide_eq_true (by omega)
   have c3' : (i : Int) < 201 := by omega
   rw [c2] at zb2
   have hL := HLP.out
   unfold lysimeterref16_ReadManifest.lp at hL
   rw [if_pos ⟨hc.1, hc.2.1⟩] at hL
   have HI := Aside0.mk hc.2.2
   clear hc HLP
   obtain ⟨u0, hu, hL⟩ := Option.bind_eq_some_iff.mp hL
   have U0 := Aside0.mk hu
   clear hu
   obtain ⟨u1, hu, hL⟩ := Option.bind_eq_some_iff.mp hL
   have U1 := Aside0.mk hu
   clear hu
   obtain ⟨u2, hu, hL⟩ := Option.bind_eq_some_iff.mp hL
   have U2 := Aside0.mk hu
   clear hu
   obtain ⟨u3, hu, hL⟩ := Option.bind_eq_some_iff.mp hL
   have U3 := Aside0.mk hu
   have HLP := Aside0.mk hL
   clear hu hL
   go_upto_region 13 with (first
    | ((with_reducible refine gate_dst (N := 8) rfl ?_); refine box_event ?hg (N := 8) ?hd (cs := #[.int .i64 0, .int .i64 0, .int .i64 0, .int .i64 0]) (t := 114) ?hr ?_; (case hd => rfl); (case hg => rfl); (case hr => first | (go_simp; done) | (go_simp; rfl)); intro g8 hg8 w8 bk8 hb8; have y0_ : w8.cell? ⟨g8, 0, none⟩ = some (.int .i64 0) := (blk_cell bk8 0).trans rfl; have y1_ : w8.cell? ⟨g8, 1, none⟩ = some (.int .i64 0) := (blk_cell bk8 1).trans rfl; have y2_ : w8.cell? ⟨g8, 2, none⟩ = some (.int .i64 0) := (blk_cell bk8 2).trans rfl; have y3_ : w8.cell? ⟨g8, 3, none⟩ = some (.int .i64 0) := (blk_cell bk8 3).trans rfl; have yf0 := blk_frozen bk8 0; have yf1 := blk_frozen bk8 1; have yf2 := blk_frozen bk8 2; have yf3 := blk_frozen bk8 3; have B8 := Aside0.mk bk8; have HB8 := Aside0.mk hb8; have G8 := Aside0.mk hg8; clear bk8 hb8 hg8))
   refine XH.cwp_world ?_
   intro w12 hw12
   have b8_ : w12.heap[g8]? = some (.cells #[.int .i64 0, .int .i64 0, .int .i64 0, .int .i64 0] 114 (0, 0)) := by rw [hw12]; exact blk_put (blk_put (blk_put (blk_put B8.out 0 _ rfl) 1 _ rfl) 2 _ rfl) 3 _ rfl
   have hbb : Below wr.heap.size wr w12 := by rw [hw12]; exact below_set (below_set (below_set (below_set HB8.out (Nat.le_of_eq G8.out.symm)) (Nat.le_of_eq G8.out.symm)) (Nat.le_of_eq G8.out.symm)) (Nat.le_of_eq G8.out.symm)
   have A8 := Aside0.mk (show a ≠ g8 by have := blk_lt BA.out; have := G8.out; omega)
   have M8 := Aside0.mk (show m ≠ g8 by have := blk_lt BM.out; have := G8.out; omega)
   have R8 := Aside0.mk (show gr ≠ g8 by obtain ⟨⟨_, g1_, _⟩, _, _⟩ := RD.out; have := blk_lt g1_; have := G8.out; omega)
   have W8 := Aside0.mk (show w.heap.size ≤ g8 by rw [G8.out]; exact below_size HB.out)
   have ac_ := Aside0.mk (Kd.R_mono (ok' := fun k => (k ≠ a ∧ k ≠ m ∧ k ≠ gr) ∧ k ≠ g8) (Kd.R_below (Kd.R_bound AC.out) hbb) (fun k hk => ⟨hk.1, by have := hk.2.2.1; have := G8.out; omega⟩))
   have bm_ := Aside0.mk (blk_below BM.out hbb)
   have ba_ := Aside0.mk (blk_below BA.out hbb)
   have rd_ := Aside0.mk (RD.out.kept ((Kept.refl wr (fun _ => False)).below hbb) (fun h => h))
   have hb_ := Aside0.mk (below_step HB.out hbb)
   clear B8 HB8 G8 BM BA RD HB AC hw12 hbb y0_ y1_ y2_ y3_ yf0 yf1 yf2 yf3 zb2
   have B8 := Aside0.mk b8_
   have BM := bm_
   have BA := ba_
   have RD := rd_
   have HB := hb_
   have AC := ac_
   clear b8_ bm_ ba_ rd_ hb_ ac_
   go_upto_region 14 with (first
    | (go_at_call 76; (with_reducible refine (lysimeterref16_ReadManifest.number k A0 c0 (l0.take nb) gr s u0 w _ HB.out RD.out U0.out).mono ?_); rintro e wu0 ⟨rfl, hd_, hb_, hk_⟩; have n0_ := Aside0.mk (blk_kept BA.out hk_ (fun h => AR.out h)); have n1_ := Aside0.mk (blk_kept BM.out hk_ (fun h => MR.out h)); have n2_ := Aside0.mk (blk_kept B8.out hk_ (fun h => R8.out h.symm)); have n3_ := Aside0.mk (Kd.R_kept AC.out hk_ (fun k hk h => hk.1.2.2 h)); clear BA BM B8 AC HB RD; have BA := n0_; have BM := n1_; have B8 := n2_; have AC := n3_; have HB := Aside0.mk hb_; have RD := Aside0.mk hd_; clear n0_ n1_ n2_ n3_ hb_ hk_ hd_; have y0 : wu0.cell? ⟨g8, 0, none⟩ = some (.int .i64 0) := (blk_cell B8.out 0).trans rfl; have yf0 := blk_frozen B8.out 0; have y1 : wu0.cell? ⟨g8, 1, none⟩ = some (.int .i64 0) := (blk_cell B8.out 1).trans rfl; have yf1 := blk_frozen B8.out 1; have y2 : wu0.cell? ⟨g8, 2, none⟩ = some (.int .i64 0) := (blk_cell B8.out 2).trans rfl; have yf2 := blk_frozen B8.out 2; have y3 : wu0.cell? ⟨g8, 3, none⟩ = some (.int .i64 0) := (blk_cell B8.out 3).trans rfl; have yf3 := blk_frozen B8.out 3))
   refine XH.cwp_world ?_
   intro wv0 hwv
   have b8_ : wv0.heap[g8]? = some (.cells #[.int .i64 u0.1, .int .i64 0, .int .i64 0, .int .i64 0] 114 (0, 0)) := by rw [hwv]; exact blk_put B8.out 0 _ rfl
   have bm_ := Aside0.mk (show wv0.heap[m]? = some (.cells #[v, .int .i64 v0, .int .i64 v1, .int .i64 v2] 26 (0, 0)) by rw [hwv]; exact blk_far BM.out (p := ⟨g8, 0, none⟩) M8.out _)
   have ba_ := Aside0.mk (show wv0.heap[a]? = some (.cells #[.slice none 0 0, .int .i64 0, .int .i64 0, .int .i64 0] 26 (0, 0)) by rw [hwv]; exact blk_far BA.out (p := ⟨g8, 0, none⟩) A8.out _)
   have hb_ : Below w.heap.size w wv0 := by rw [hwv]; exact below_set HB.out W8.out
   have rd_ : lysimeterref16_ReadManifest.RD w wv0 A0 c0 (l0.take nb) gr u0.2 := by
    obtain ⟨⟨p_, g1_, g2_⟩, g3_, g4_⟩ := RD.out
    exact ⟨⟨p_, by rw [hwv]; exact blk_far g1_ (p := ⟨g8, 0, none⟩) R8.out _, g2_⟩, g3_, g4_⟩
   have ac_ : Kd.R k114 114 wv0 w.heap.size (fun k => (k ≠ a ∧ k ≠ m ∧ k ≠ gr) ∧ k ≠ g8) v acc := by rw [hwv]; exact Kd.R_far (p := ⟨g8, 0, none⟩) AC.out (fun k hk => hk.2) _
   clear BA BM B8 AC HB RD hwv y0 y1 y2 y3 yf0 yf1 yf2 yf3
   have B8 := Aside0.mk b8_
   have BM := bm_
   have BA := ba_
   have HB := Aside0.mk hb_
   have RD := Aside0.mk rd_
   have AC := Aside0.mk ac_
   clear b8_ bm_ ba_ hb_ rd_ ac_
   go_upto_region 15 with (first
    | (go_at_call 76; (with_reducible refine (lysimeterref16_ReadManifest.number k A0 c0 (l0.take nb) gr u0.2 u1 w _ HB.out RD.out U1.out).mono ?_); rintro e wu1 ⟨rfl, hd_, hb_, hk_⟩; have n0_ := Aside0.mk (blk_kept BA.out hk_ (fun h => AR.out h)); have n1_ := Aside0.mk (blk_kept BM.out hk_ (fun h => MR.out h)); have n2_ := Aside0.mk (blk_kept B8.out hk_ (fun h => R8.out h.symm)); have n3_ := Aside0.mk (Kd.R_kept AC.out hk_ (fun k hk h => hk.1.2.2 h)); clear BA BM B8 AC HB RD; have BA := n0_; have BM := n1_; have B8 := n2_; have AC := n3_; have HB := Aside0.mk hb_; have RD := Aside0.mk hd_; clear n0_ n1_ n2_ n3_ hb_ hk_ hd_; have y0 : wu1.cell? ⟨g8, 0, none⟩ = some (.int .i64 u0.1) := (blk_cell B8.out 0).trans rfl; have yf0 := blk_frozen B8.out 0; have y1 : wu1.cell? ⟨g8, 1, none⟩ = some (.int .i64 0) := (blk_cell B8.out 1).trans rfl; have yf1 := blk_frozen B8.out 1; have y2 : wu1.cell? ⟨g8, 2, none⟩ = some (.int .i64 0) := (blk_cell B8.out 2).trans rfl; have yf2 := blk_frozen B8.out 2; have y3 : wu1.cell? ⟨g8, 3, none⟩ = some (.int .i64 0) := (blk_cell B8.out 3).trans rfl; have yf3 := blk_frozen B8.out 3))
   refine XH.cwp_world ?_
   intro wv1 hwv
   have b8_ : wv1.heap[g8]? = some (.cells #[.int .i64 u0.1, .int .i64 u1.1, .int .i64 0, .int .i64 0] 114 (0, 0)) := by rw [hwv]; exact blk_put B8.out 1 _ rfl
   have bm_ := Aside0.mk (show wv1.heap[m]? = some (.cells #[v, .int .i64 v0, .int .i64 v1, .int .i64 v2] 26 (0, 0)) by rw [hwv]; exact blk_far BM.out (p := ⟨g8, 1, none⟩) M8.out _)
   have ba_ := Aside0.mk (show wv1.heap[a]? = some (.cells #[.slice none 0 0, .int .i64 0, .int .i64 0, .int .i64 0] 26 (0, 0)) by rw [hwv]; exact blk_far BA.out (p := ⟨g8, 1, none⟩) A8.out _)
   have hb_ : Below w.heap.size w wv1 := by rw [hwv]; exact below_set HB.out W8.out
   have rd_ : lysimeterref16_ReadManifest.RD w wv1 A0 c0 (l0.take nb) gr u1.2 := by
    obtain ⟨⟨p_, g1_, g2_⟩, g3_, g4_⟩ := RD.out
    exact ⟨⟨p_, by rw [hwv]; exact blk_far g1_ (p := ⟨g8, 1, none⟩) R8.out _, g2_⟩, g3_, g4_⟩
   have ac_ : Kd.R k114 114 wv1 w.heap.size (fun k => (k ≠ a ∧ k ≠ m ∧ k ≠ gr) ∧ k ≠ g8) v acc := by rw [hwv]; exact Kd.R_far (p := ⟨g8, 1, none⟩) AC.out (fun k hk => hk.2) _
   clear BA BM B8 AC HB RD hwv y0 y1 y2 y3 yf0 yf1 yf2 yf3
   have B8 := Aside0.mk b8_
   have BM := bm_
   have BA := ba_
   have HB := Aside0.mk hb_
   have RD := Aside0.mk rd_
   have AC := Aside0.mk ac_
   clear b8_ bm_ ba_ hb_ rd_ ac_
   go_upto_region 16 with (first
    | (go_at_call 77; (with_reducible refine (lysimeterref16_ReadManifest.signed k A0 c0 (l0.take nb) gr u1.2 u2 w _ HB.out RD.out U2.out).mono ?_); rintro e wu2 ⟨rfl, hd_, hb_, hk_⟩; have n0_ := Aside0.mk (blk_kept BA.out hk_ (fun h => AR.out h)); have n1_ := Aside0.mk (blk_kept BM.out hk_ (fun h => MR.out h)); have n2_ := Aside0.mk (blk_kept B8.out hk_ (fun h => R8.out h.symm)); have n3_ := Aside0.mk (Kd.R_kept AC.out hk_ (fun k hk h => hk.1.2.2 h)); clear BA BM B8 AC HB RD; have BA := n0_; have BM := n1_; have B8 := n2_; have AC := n3_; have HB := Aside0.mk hb_; have RD := Aside0.mk hd_; clear n0_ n1_ n2_ n3_ hb_ hk_ hd_; have y0 : wu2.cell? ⟨g8, 0, none⟩ = some (.int .i64 u0.1) := (blk_cell B8.out 0).trans rfl; have yf0 := blk_frozen B8.out 0; have y1 : wu2.cell? ⟨g8, 1, none⟩ = some (.int .i64 u1.1) := (blk_cell B8.out 1).trans rfl; have yf1 := blk_frozen B8.out 1; have y2 : wu2.cell? ⟨g8, 2, none⟩ = some (.int .i64 0) := (blk_cell B8.out 2).trans rfl; have yf2 := blk_frozen B8.out 2; have y3 : wu2.cell? ⟨g8, 3, none⟩ = some (.int .i64 0) := (blk_cell B8.out 3).trans rfl; have yf3 := blk_frozen B8.out 3))
   refine XH.cwp_world ?_
   intro wv2 hwv
   have b8_ : wv2.heap[g8]? = some (.cells #[.int .i64 u0.1, .int .i64 u1.1, .int .i64 u2.1, .int .i64 0] 114 (0, 0)) := by rw [hwv]; exact blk_put B8.out 2 _ rfl
   have bm_ := Aside0.mk (show wv2.heap[m]? = some (.cells #[v, .int .i64 v0, .int .i64 v1, .int .i64 v2] 26 (0, 0)) by rw [hwv]; exact blk_far BM.out (p := ⟨g8, 2, none⟩) M8.out _)
   have ba_ := Aside0.mk (show wv2.heap[a]? = some (.cells #[.slice none 0 0, .int .i64 0, .int .i64 0, .int .i64 0] 26 (0, 0)) by rw [hwv]; exact blk_far BA.out (p := ⟨g8, 2, none⟩) A8.out _)
   have hb_ : Below w.heap.size w wv2 := by rw [hwv]; exact below_set HB.out W8.out
   have rd_ : lysimeterref16_ReadManifest.RD w wv2 A0 c0 (l0.take nb) gr u2.2 := by
    obtain ⟨⟨p_, g1_, g2_⟩, g3_, g4_⟩ := RD.out
    exact ⟨⟨p_, by rw [hwv]; exact blk_far g1_ (p := ⟨g8, 2, none⟩) R8.out _, g2_⟩, g3_, g4_⟩
   have ac_ : Kd.R k114 114 wv2 w.heap.size (fun k => (k ≠ a ∧ k ≠ m ∧ k ≠ gr) ∧ k ≠ g8) v acc := by rw [hwv]; exact Kd.R_far (p := ⟨g8, 2, none⟩) AC.out (fun k hk => hk.2) _
   clear BA BM B8 AC HB RD hwv y0 y1 y2 y3 yf0 yf1 yf2 yf3
   have B8 := Aside0.mk b8_
   have BM := bm_
   have BA := ba_
   have HB := Aside0.mk hb_
   have RD := Aside0.mk rd_
   have AC := Aside0.mk ac_
   clear b8_ bm_ ba_ hb_ rd_ ac_
   go_upto_region 17 with (first
    | (go_at_call 77; (with_reducible refine (lysimeterref16_ReadManifest.signed k A0 c0 (l0.take nb) gr u2.2 u3 w _ HB.out RD.out U3.out).mono ?_); rintro e wu3 ⟨rfl, hd_, hb_, hk_⟩; have n0_ := Aside0.mk (blk_kept BA.out hk_ (fun h => AR.out h)); have n1_ := Aside0.mk (blk_kept BM.out hk_ (fun h => MR.out h)); have n2_ := Aside0.mk (blk_kept B8.out hk_ (fun h => R8.out h.symm)); have n3_ := Aside0.mk (Kd.R_kept AC.out hk_ (fun k hk h => hk.1.2.2 h)); clear BA BM B8 AC HB RD; have BA := n0_; have BM := n1_; have B8 := n2_; have AC := n3_; have HB := Aside0.mk hb_; have RD := Aside0.mk hd_; clear n0_ n1_ n2_ n3_ hb_ hk_ hd_; have y0 : wu3.cell? ⟨g8, 0, none⟩ = some (.int .i64 u0.1) := (blk_cell B8.out 0).trans rfl; have yf0 := blk_frozen B8.out 0; have y1 : wu3.cell? ⟨g8, 1, none⟩ = some (.int .i64 u1.1) := (blk_cell B8.out 1).trans rfl; have yf1 := blk_frozen B8.out 1; have y2 : wu3.cell? ⟨g8, 2, none⟩ = some (.int .i64 u2.1) := (blk_cell B8.out 2).trans rfl; have yf2 := blk_frozen B8.out 2; have y3 : wu3.cell? ⟨g8, 3, none⟩ = some (.int .i64 0) := (blk_cell B8.out 3).trans rfl; have yf3 := blk_frozen B8.out 3))
   refine XH.cwp_world ?_
   intro wv3 hwv
   have b8_ : wv3.heap[g8]? = some (.cells #[.int .i64 u0.1, .int .i64 u1.1, .int .i64 u2.1, .int .i64 u3.1] 114 (0, 0)) := by rw [hwv]; exact blk_put B8.out 3 _ rfl
   have bm_ := Aside0.mk (show wv3.heap[m]? = some (.cells #[v, .int .i64 v0, .int .i64 v1, .int .i64 v2] 26 (0, 0)) by rw [hwv]; exact blk_far BM.out (p := ⟨g8, 3, none⟩) M8.out _)
   have ba_ := Aside0.mk (show wv3.heap[a]? = some (.cells #[.slice none 0 0, .int .i64 0, .int .i64 0, .int .i64 0] 26 (0, 0)) by rw [hwv]; exact blk_far BA.out (p := ⟨g8, 3, none⟩) A8.out _)
   have hb_ : Below w.heap.size w wv3 := by rw [hwv]; exact below_set HB.out W8.out
   have rd_ : lysimeterref16_ReadManifest.RD w wv3 A0 c0 (l0.take nb) gr u3.2 := by
    obtain ⟨⟨p_, g1_, g2_⟩, g3_, g4_⟩ := RD.out
    exact ⟨⟨p_, by rw [hwv]; exact blk_far g1_ (p := ⟨g8, 3, none⟩) R8.out _, g2_⟩, g3_, g4_⟩
   have ac_ : Kd.R k114 114 wv3 w.heap.size (fun k => (k ≠ a ∧ k ≠ m ∧ k ≠ gr) ∧ k ≠ g8) v acc := by rw [hwv]; exact Kd.R_far (p := ⟨g8, 3, none⟩) AC.out (fun k hk => hk.2) _
   clear BA BM B8 AC HB RD hwv y0 y1 y2 y3 yf0 yf1 yf2 yf3
   have B8 := Aside0.mk b8_
   have BM := bm_
   have BA := ba_
   have HB := Aside0.mk hb_
   have RD := Aside0.mk rd_
   have AC := Aside0.mk ac_
   clear b8_ bm_ ba_ hb_ rd_ ac_
   have zm0 : wv3.cell? ⟨m, 0, none⟩ = some (v) := (blk_cell BM.out 0).trans rfl
   have zmf0 := blk_frozen BM.out 0
   have y0 : wv3.cell? ⟨g8, 0, none⟩ = some (.int .i64 u0.1) := (blk_cell B8.out 0).trans rfl
   have yf0 := blk_frozen B8.out 0
   have y1 : wv3.cell? ⟨g8, 1, none⟩ = some (.int .i64 u1.1) := (blk_cell B8.out 1).trans rfl
   have yf1 := blk_frozen B8.out 1
   have y2 : wv3.cell? ⟨g8, 2, none⟩ = some (.int .i64 u2.1) := (blk_cell B8.out 2).trans rfl
   have yf2 := blk_frozen B8.out 2
   have y3 : wv3.cell? ⟨g8, 3, none⟩ = some (.int .i64 u3.1) := (blk_cell B8.out 3).trans rfl
   have yf3 := blk_frozen B8.out 3
   obtain ⟨Av, cv, ev⟩ := Kd.R_slice AC.out
   subst ev
   have hi114 := info114
   go_upto_region 11 with (first
    | ((with_reducible refine gate_dst (N := 71) rfl ?_); refine Kd.R_lit k114 _ 114 ?hg (N := 71) ?hd (xs := [(⟨u0.1, u1.1, u2.1, u3.1⟩ : S114)]) (inner := [.int .i64 u0.1, .int .i64 u1.1, .int .i64 u2.1, .int .i64 u3.1]) (ok := fun _ => True) (okp := fun _ => True) ?hr ?hp (fun _ hk => hk) trivial (Below.refl _ _) (Nat.le_refl _) (by simp) ?_; (case hd => rfl); (case hg => rfl); (case hr => first | (go_simp; done) | (go_simp; rfl)); (case hp => exact ((Reps.none _ _).snoc (k114_mkM _ _ _ (⟨u0.1, u1.1, u2.1, u3.1⟩ : S114)) rfl)); intro v71 w71 ho71 hb71 hg71 hn71; obtain ⟨A7, c7, e7, hc7, hr7⟩ := Kd.R_reads ho71; subst e7; have bm_ := Aside0.mk (blk_below BM.out hb71); have ba_ := Aside0.mk (blk_below BA.out hb71); have ac_ := Aside0.mk (Kd.R_below AC.out hb71); have rd_ := Aside0.mk (RD.out.kept ((Kept.refl wv3 (fun _ => False)).below hb71) (fun h => h)); have hb_ := Aside0.mk (below_step HB.out hb71); have C7 := Aside0.mk hr7; clear BM BA AC RD HB zm0 zmf0 y0 y1 y2 y3 hb71 ho71 hg71 hn71 hr7 hc7 B8; have BM := bm_; have BA := ba_; have AC := ac_; have RD := rd_; have HB := hb_; clear bm_ ba_ ac_ rd_ hb_; have zm0 : w71.cell? ⟨m, 0, none⟩ = some (.slice Av acc.length cv) := (blk_cell BM.out 0).trans rfl; have zmf0 := blk_frozen BM.out 0)
    | ((with_reducible refine gate_builtin (b := .append) (xs := #[.tmp 69, .tmp 71]) rfl ?_); at_builtin; refine Kd.R_append_rows k114 (w0 := w) w.heap.size rfl (.tmp 69) (.tmp 71) 24 114 (.agg #[(.int .i64 0), (.int .i64 0), (.int .i64 0), (.int .i64 0)]) 32 rfl Try.underlying24 info114 rfl (by decide) (by omega) (.slice Av acc.length cv) acc [(⟨u0.1, u1.1, u2.1, u3.1⟩ : S114)] _ _ _ (fun k => k ≠ a ∧ k ≠ m ∧ k ≠ gr) (fun _ => False) rfl rfl (Kd.R_mono AC.out (fun _ hk => hk.1)) C7.out (fun x cs h => by rw [k114_open h]; exact k114_mkM _ _ _ _) (fun _ h => h.elim) (fun k hk => by have := blk_lt BA.out; have := blk_lt BM.out; have : gr < w71.heap.size := (by obtain ⟨⟨_, h_, _⟩, _, _⟩ := RD.out; exact blk_lt h_); omega) HB.out HB.out.size (by have := HAL.out; have := HI.out; simp only [List.length_singleton]; omega) ?_; intro v72 w72 ho72 hb72 hg72 hat72; obtain ⟨A6, c6, e6⟩ := Kd.R_slice ho72; subst e6; have hbm := blk_grown BM.out hg72 (fun he => (AC.out.1 m he.symm).1.2.1 rfl); have hba := blk_grown BA.out hg72 (fun he => (AC.out.1 a he.symm).1.1 rfl); have hrd : lysimeterref16_ReadManifest.RD w w72 A0 c0 (l0.take nb) gr u3.2 := (by obtain ⟨⟨p_, g1_, g2_⟩, g3_, g4_⟩ := RD.out; exact ⟨⟨p_, blk_grown g1_ hg72 (fun he => (AC.out.1 gr he.symm).1.2.2 rfl), g2_⟩, g3_, g4_⟩); clear zm0 zmf0 BM BA RD HB C7; have zm0 : w72.cell? ⟨m, 0, none⟩ = some (.slice Av acc.length cv) := (blk_cell hbm 0).trans rfl; have zmf0 := blk_frozen hbm 0; have BM := Aside0.mk hbm; have BA := Aside0.mk hba; have RD := Aside0.mk hrd; have HB := Aside0.mk hb72; have AD := Aside0.mk ho72; clear hbm hba hrd hb72 hg72 hat72 ho72 AC))
   refine XH.cwp_world ?_
   intro w73 hw73
   have bm_ : w73.heap[m]? = some (.cells #[.slice A6 (acc.length + 1) c6, .int .i64 v0, .int .i64 v1, .int .i64 v2] 26 (0, 0)) := by rw [hw73]; exact blk_put BM.out 0 _ rfl
   have ba_ : w73.heap[a]? = some (.cells #[.slice none 0 0, .int .i64 0, .int .i64 0, .int .i64 0] 26 (0, 0)) := by rw [hw73]; exact blk_far BA.out (p := ⟨m, 0, none⟩) AM.out _
   have hb_ : Below w.heap.size w w73 := by rw [hw73]; exact below_set HB.out GM.out
   have rd_ : lysimeterref16_ReadManifest.RD w w73 A0 c0 (l0.take nb) gr u3.2 := by
    obtain ⟨⟨p_, g1_, g2_⟩, g3_, g4_⟩ := RD.out
    exact ⟨⟨p_, by rw [hw73]; exact blk_far g1_ (p := ⟨m, 0, none⟩) (Ne.symm MR.out) _, g2_⟩, g3_, g4_⟩
   have ad_ : Kd.R k114 114 w73 w.heap.size (fun k => k ≠ a ∧ k ≠ m ∧ k ≠ gr) (.slice A6 (acc.length + 1) c6) (acc ++ [⟨u0.1, u1.1, u2.1, u3.1⟩]) := by rw [hw73]; have z := Kd.R_far (p := ⟨m, 0, none⟩) AD.out (fun k hk => hk.2.1) (.slice A6 (acc.length + 1) c6); rw [List.length_append, List.length_singleton] at z; exact z
   clear zm0 zmf0 BM BA RD HB AD hw73
   have hw1 : wrap64 ((i : Int) + 1) = ((i + 1 : Nat) : Int) := by have := HI.out; unfold wrap64; omega
   go_wp2
   go_roundg k1
   case measure => omega
   case rel => exact ⟨i + 1, u3.2, _, _, by omega, (by first | exact congrArg (Value.int .i64) hw1 | exact congrArg (Value.int .i64) (show (i : Int) + 1 = ((i + 1 : Nat) : Int) by omega)), HLP, ⟨bm_⟩, ⟨ad_⟩, ⟨by have := HAL.out; rw [List.length_append, List.length_singleton]; omega⟩, ⟨ba_⟩, ⟨rd_⟩, ⟨hb_⟩⟩
  case neg =>
   have hy : (acc, s) = y0 := by
    have hL := HLP.out
    cases gk with
    | zero => exact Option.some.inj hL
    | succ k1 =>
     unfold lysimeterref16_ReadManifest.lp at hL
     rw [if_neg (fun h => hc ⟨h.1, h.2, by omega⟩)] at hL
     exact Option.some.inj hL
   subst hy
   have E1 := HE.out
   dsimp only at E1
   have zc : (i : Int) < v3 ∨ ¬ (i : Int) < v3 := by omega
   clear HLP HE
   have za0 : wr.cell? ⟨a, 0, none⟩ = some (.slice none 0 0) := (blk_cell BA.out 0).trans rfl
   have zaf0 := blk_frozen BA.out 0
   have za1 : wr.cell? ⟨a, 1, none⟩ = some (.int .i64 0) := (blk_cell BA.out 1).trans rfl
   have zaf1 := blk_frozen BA.out 1
   have za2 : wr.cell? ⟨a, 2, none⟩ = some (.int .i64 0) := (blk_cell BA.out 2).trans rfl
   have zaf2 := blk_frozen BA.out 2
   have za3 : wr.cell? ⟨a, 3, none⟩ = some (.int .i64 0) := (blk_cell BA.out 3).trans rfl
   have zaf3 := blk_frozen BA.out 3
   rcases zc with c1 | c1
   ·have c1b : decide ((i : Int) < v3) = true := decide_eq_true c1
    cases hb : s.2 with
    | true =>
     rw [hb] at zb2 E1
     rw [if_pos rfl] at E1
     clear hc hb
     go_wp2_with fail
     simp only [Option.some.injEq, Prod.mk.injEq] at E1
     obtain ⟨rfl, rfl, rfl, rfl, rfl⟩ := E1
     exact lysimeterref16_ReadManifest.fail_ a _ _ w _ rfl BA.out GA.out HB.out rfl rfl
    | false =>
     rw [hb] at zb2 E1
     have c3 : decide ((i : Int) < 201) = false := decide_eq_false (by intro h; exact hc ⟨c1, hb, by omega⟩)
     have c3' : ¬ (i : Int) < 201 := by intro h; exact hc ⟨c1, hb, by omega⟩
     clear hc hb
     rw [if_neg (by simp)] at E1
     obtain ⟨⟨tr, te⟩, ht, E2⟩ := Option.bind_eq_some_iff.mp E1
     have HM := Aside0.mk ht
     clear E1 ht
     dsimp only at E2
     obtain ⟨Av, cv, rfl, hcA, hrA⟩ := Kd.R_reads AC.out
     have CA := Aside0.mk hrA
     have HCA := Aside0.mk hcA
     clear hcA hrA
     have zm0 : wr.cell? ⟨m, 0, none⟩ = some (.slice Av acc.length cv) := (blk_cell BM.out 0).trans rfl
     have zmf0 := blk_frozen BM.out 0
     have zm1 : wr.cell? ⟨m, 1, none⟩ = some (.int .i64 v0) := (blk_cell BM.out 1).trans rfl
     have zmf1 := blk_frozen BM.out 1
     have zm2 : wr.cell? ⟨m, 2, none⟩ = some (.int .i64 v1) := (blk_cell BM.out 2).trans rfl
     have zmf2 := blk_frozen BM.out 2
     have zm3 : wr.cell? ⟨m, 3, none⟩ = some (.int .i64 v2) := (blk_cell BM.out 3).trans rfl
     have zmf3 := blk_frozen BM.out 3
     obtain ⟨q1, hq1⟩ : ∃ q, q = strOfNums tr := ⟨_, rfl⟩
     obtain ⟨q0, hq0⟩ : ∃ q, q = strOfNums l0 := ⟨_, rfl⟩
     rw [← hq1, ← hq0] at E2
     have Q1 := Aside0.mk hq1
     have Q0 := Aside0.mk hq0
     clear hq1 hq0
     by_cases hte : te = 0
     case neg =>
      have hteb : (te != 0) = true := bne_iff_ne.mpr hte
      rw [if_neg (fun h => hte h.1)] at E2
      clear hte
      go_wp2_with (first | (go_at_call 78; (with_reducible refine (lysimeterref16_Manifest.calls k Av cv acc v0 v1 v2 tr _ _ ?s1 ?s2 HM.out).mono ?_); (case s1 => exact CA.out); (case s2 => exact HCA.out); rintro e wp ⟨vp, rfl, hvp, hb_⟩; obtain ⟨Ap, cp, rfl, hcp, hrp⟩ := Kd.R_reads hvp; have st1 := Kd.C_string (P := Try.prog) (A := Ap) (c := cp) Try.underlying22 Try.underlying5 Try.underlying9 hrp; have st0 := Kd.C_string (P := Try.prog) (A := A0) (c := c0) Try.underlying22 Try.underlying5 Try.underlying9 (Kd.C_below CR.out (below_step HB.out hb_)); rw [← Q1.out] at st1; rw [← Q0.out] at st0; clear hvp hcp hrp; have ba_ := Aside0.mk (blk_below BA.out hb_); have bm_ := Aside0.mk (blk_below BM.out hb_); have ac_ := Aside0.mk (Kd.R_below AC.out hb_); have hb2_ := Aside0.mk (below_step HB.out hb_); clear BA BM AC HB za0 za1 za2 za3 zaf0 zaf1 zaf2 zaf3 zm0 zm1 zm2 zm3 zmf0 zmf1 zmf2 zmf3 zb2 hb_; have BA := ba_; have BM := bm_; have AC := ac_; have HB := hb2_; clear ba_ bm_ ac_ hb2_; have za0 : wp.cell? ⟨a, 0, none⟩ = some (.slice none 0 0) := (blk_cell BA.out 0).trans rfl; have zaf0 := blk_frozen BA.out 0; have za1 : wp.cell? ⟨a, 1, none⟩ = some (.int .i64 0) := (blk_cell BA.out 1).trans rfl; have zaf1 := blk_frozen BA.out 1; have za2 : wp.cell? ⟨a, 2, none⟩ = some (.int .i64 0) := (blk_cell BA.out 2).trans rfl; have zaf2 := blk_frozen BA.out 2; have za3 : wp.cell? ⟨a, 3, none⟩ = some (.int .i64 0) := (blk_cell BA.out 3).trans rfl; have zaf3 := blk_frozen BA.out 3; have zm0 : wp.cell? ⟨m, 0, none⟩ = some (.slice Av acc.length cv) := (blk_cell BM.out 0).trans rfl; have zmf0 := blk_frozen BM.out 0; have zm1 : wp.cell? ⟨m, 1, none⟩ = some (.int .i64 v0) := (blk_cell BM.out 1).trans rfl; have zmf1 := blk_frozen BM.out 1; have zm2 : wp.cell? ⟨m, 2, none⟩ = some (.int .i64 v1) := (blk_cell BM.out 2).trans rfl; have zmf2 := blk_frozen BM.out 2; have zm3 : wp.cell? ⟨m, 3, none⟩ = some (.int .i64 v2) := (blk_cell BM.out 3).trans rfl; have zmf3 := blk_frozen BM.out 3))
      simp only [Option.some.injEq, Prod.mk.injEq] at E2
      obtain ⟨rfl, rfl, rfl, rfl, rfl⟩ := E2
      exact lysimeterref16_ReadManifest.fail_ a _ _ w _ rfl BA.out GA.out HB.out rfl rfl
     case pos =>
     subst hte
     have hteb : ((0 : Int) != 0) = false := rfl
     by_cases hqq : q1.toList = q0.toList
     case neg =>
      have hqqb : (q1.toList == q0.toList) = false := beq_eq_false_iff_ne.mpr hqq
      rw [if_neg (fun h => hqq h.2)] at E2
      clear hqq
      go_wp2_with (first | (go_at_call 78; (with_reducible refine (lysimeterref16_Manifest.calls k Av cv acc v0 v1 v2 tr _ _ ?s1 ?s2 HM.out).mono ?_); (case s1 => exact CA.out); (case s2 => exact HCA.out); rintro e wp ⟨vp, rfl, hvp, hb_⟩; obtain ⟨Ap, cp, rfl, hcp, hrp⟩ := Kd.R_reads hvp; have st1 := Kd.C_string (P := Try.prog) (A := Ap) (c := cp) Try.underlying22 Try.underlying5 Try.underlying9 hrp; have st0 := Kd.C_string (P := Try.prog) (A := A0) (c := c0) Try.underlying22 Try.underlying5 Try.underlying9 (Kd.C_below CR.out (below_step HB.out hb_)); rw [← Q1.out] at st1; rw [← Q0.out] at st0; clear hvp hcp hrp; have ba_ := Aside0.mk (blk_below BA.out hb_); have bm_ := Aside0.mk (blk_below BM.out hb_); have ac_ := Aside0.mk (Kd.R_below AC.out hb_); have hb2_ := Aside0.mk (below_step HB.out hb_); clear BA BM AC HB za0 za1 za2 za3 zaf0 zaf1 zaf2 zaf3 zm0 zm1 zm2 zm3 zmf0 zmf1 zmf2 zmf3 zb2 hb_; have BA := ba_; have BM := bm_; have AC := ac_; have HB := hb2_; clear ba_ bm_ ac_ hb2_; have za0 : wp.cell? ⟨a, 0, none⟩ = some (.slice none 0 0) := (blk_cell BA.out 0).trans rfl; have zaf0 := blk_frozen BA.out 0; have za1 : wp.cell? ⟨a, 1, none⟩ = some (.int .i64 0) := (blk_cell BA.out 1).trans rfl; have zaf1 := blk_frozen BA.out 1; have za2 : wp.cell? ⟨a, 2, none⟩ = some (.int .i64 0) := (blk_cell BA.out 2).trans rfl; have zaf2 := blk_frozen BA.out 2; have za3 : wp.cell? ⟨a, 3, none⟩ = some (.int .i64 0) := (blk_cell BA.out 3).trans rfl; have zaf3 := blk_frozen BA.out 3; have zm0 : wp.cell? ⟨m, 0, none⟩ = some (.slice Av acc.length cv) := (blk_cell BM.out 0).trans rfl; have zmf0 := blk_frozen BM.out 0; have zm1 : wp.cell? ⟨m, 1, none⟩ = some (.int .i64 v0) := (blk_cell BM.out 1).trans rfl; have zmf1 := blk_frozen BM.out 1; have zm2 : wp.cell? ⟨m, 2, none⟩ = some (.int .i64 v1) := (blk_cell BM.out 2).trans rfl; have zmf2 := blk_frozen BM.out 2; have zm3 : wp.cell? ⟨m, 3, none⟩ = some (.int .i64 v2) := (blk_cell BM.out 3).trans rfl; have zmf3 := blk_frozen BM.out 3))
      simp only [Option.some.injEq, Prod.mk.injEq] at E2
      obtain ⟨rfl, rfl, rfl, rfl, rfl⟩ := E2
      exact lysimeterref16_ReadManifest.fail_ a _ _ w _ rfl BA.out GA.out HB.out rfl rfl
     case pos =>
     have hqqb : (q1.toList == q0.toList) = true := beq_iff_eq.mpr hqq
     rw [if_pos ⟨rfl, hqq⟩] at E2
     clear hqq
     go_wp2_with (first | (go_at_call 78; (with_reducible refine (lysimeterref16_Manifest.calls k Av cv acc v0 v1 v2 tr _ _ ?s1 ?s2 HM.out).mono ?_); (case s1 => exact CA.out); (case s2 => exact HCA.out); rintro e wp ⟨vp, rfl, hvp, hb_⟩; obtain ⟨Ap, cp, rfl, hcp, hrp⟩ := Kd.R_reads hvp; have st1 := Kd.C_string (P := Try.prog) (A := Ap) (c := cp) Try.underlying22 Try.underlying5 Try.underlying9 hrp; have st0 := Kd.C_string (P := Try.prog) (A := A0) (c := c0) Try.underlying22 Try.underlying5 Try.underlying9 (Kd.C_below CR.out (below_step HB.out hb_)); rw [← Q1.out] at st1; rw [← Q0.out] at st0; clear hvp hcp hrp; have ba_ := Aside0.mk (blk_below BA.out hb_); have bm_ := Aside0.mk (blk_below BM.out hb_); have ac_ := Aside0.mk (Kd.R_below AC.out hb_); have hb2_ := Aside0.mk (below_step HB.out hb_); clear BA BM AC HB za0 za1 za2 za3 zaf0 zaf1 zaf2 zaf3 zm0 zm1 zm2 zm3 zmf0 zmf1 zmf2 zmf3 zb2 hb_; have BA := ba_; have BM := bm_; have AC := ac_; have HB := hb2_; clear ba_ bm_ ac_ hb2_; have za0 : wp.cell? ⟨a, 0, none⟩ = some (.slice none 0 0) := (blk_cell BA.out 0).trans rfl; have zaf0 := blk_frozen BA.out 0; have za1 : wp.cell? ⟨a, 1, none⟩ = some (.int .i64 0) := (blk_cell BA.out 1).trans rfl; have zaf1 := blk_frozen BA.out 1; have za2 : wp.cell? ⟨a, 2, none⟩ = some (.int .i64 0) := (blk_cell BA.out 2).trans rfl; have zaf2 := blk_frozen BA.out 2; have za3 : wp.cell? ⟨a, 3, none⟩ = some (.int .i64 0) := (blk_cell BA.out 3).trans rfl; have zaf3 := blk_frozen BA.out 3; have zm0 : wp.cell? ⟨m, 0, none⟩ = some (.slice Av acc.length cv) := (blk_cell BM.out 0).trans rfl; have zmf0 := blk_frozen BM.out 0; have zm1 : wp.cell? ⟨m, 1, none⟩ = some (.int .i64 v0) := (blk_cell BM.out 1).trans rfl; have zmf1 := blk_frozen BM.out 1; have zm2 : wp.cell? ⟨m, 2, none⟩ = some (.int .i64 v1) := (blk_cell BM.out 2).trans rfl; have zmf2 := blk_frozen BM.out 2; have zm3 : wp.cell? ⟨m, 3, none⟩ = some (.int .i64 v2) := (blk_cell BM.out 3).trans rfl; have zmf3 := blk_frozen BM.out 3))
     simp only [Option.some.injEq, Prod.mk.injEq] at E2
     obtain ⟨rfl, rfl, rfl, rfl, rfl⟩ := E2
     exact lysimeterref16_ReadManifest.good_ a _ _ acc v0 v1 v2 _ w _ rfl BA.out GA.out HB.out (Kd.R_mono AC.out (fun _ hk => hk.1)) rfl rfl
   ·have c1b : decide ((i : Int) < v3) = false := decide_eq_false c1
    cases hb : s.2 with
    | true =>
     rw [hb] at zb2 E1
     rw [if_pos rfl] at E1
     clear hc hb
     go_wp2_with fail
     simp only [Option.some.injEq, Prod.mk.injEq] at E1
     obtain ⟨rfl, rfl, rfl, rfl, rfl⟩ := E1
     exact lysimeterref16_ReadManifest.fail_ a _ _ w _ rfl BA.out GA.out HB.out rfl rfl
    | false =>
     rw [hb] at zb2 E1
     clear hc hb
     rw [if_neg (by simp)] at E1
     obtain ⟨⟨tr, te⟩, ht, E2⟩ := Option.bind_eq_some_iff.mp E1
     have HM := Aside0.mk ht
     clear E1 ht
     dsimp only at E2
     obtain ⟨Av, cv, rfl, hcA, hrA⟩ := Kd.R_reads AC.out
     have CA := Aside0.mk hrA
     have HCA := Aside0.mk hcA
     clear hcA hrA
     have zm0 : wr.cell? ⟨m, 0, none⟩ = some (.slice Av acc.length cv) := (blk_cell BM.out 0).trans rfl
     have zmf0 := blk_frozen BM.out 0
     have zm1 : wr.cell? ⟨m, 1, none⟩ = some (.int .i64 v0) := (blk_cell BM.out 1).trans rfl
     have zmf1 := blk_frozen BM.out 1
     have zm2 : wr.cell? ⟨m, 2, none⟩ = some (.int .i64 v1) := (blk_cell BM.out 2).trans rfl
     have zmf2 := blk_frozen BM.out 2
     have zm3 : wr.cell? ⟨m, 3, none⟩ = some (.int .i64 v2) := (blk_cell BM.out 3).trans rfl
     have zmf3 := blk_frozen BM.out 3
     obtain ⟨q1, hq1⟩ : ∃ q, q = strOfNums tr := ⟨_, rfl⟩
     obtain ⟨q0, hq0⟩ : ∃ q, q = strOfNums l0 := ⟨_, rfl⟩
     rw [← hq1, ← hq0] at E2
     have Q1 := Aside0.mk hq1
     have Q0 := Aside0.mk hq0
     clear hq1 hq0
     by_cases hte : te = 0
     case neg =>
      have hteb : (te != 0) = true := bne_iff_ne.mpr hte
      rw [if_neg (fun h => hte h.1)] at E2
      clear hte
      go_wp2_with (first | (go_at_call 78; (with_reducible refine (lysimeterref16_Manifest.calls k Av cv acc v0 v1 v2 tr _ _ ?s1 ?s2 HM.out).mono ?_); (case s1 => exact CA.out); (case s2 => exact HCA.out); rintro e wp ⟨vp, rfl, hvp, hb_⟩; obtain ⟨Ap, cp, rfl, hcp, hrp⟩ := Kd.R_reads hvp; have st1 := Kd.C_string (P := Try.prog) (A := Ap) (c := cp) Try.underlying22 Try.underlying5 Try.underlying9 hrp; have st0 := Kd.C_string (P := Try.prog) (A := A0) (c := c0) Try.underlying22 Try.underlying5 Try.underlying9 (Kd.C_below CR.out (below_step HB.out hb_)); rw [← Q1.out] at st1; rw [← Q0.out] at st0; clear hvp hcp hrp; have ba_ := Aside0.mk (blk_below BA.out hb_); have bm_ := Aside0.mk (blk_below BM.out hb_); have ac_ := Aside0.mk (Kd.R_below AC.out hb_); have hb2_ := Aside0.mk (below_step HB.out hb_); clear BA BM AC HB za0 za1 za2 za3 zaf0 zaf1 zaf2 zaf3 zm0 zm1 zm2 zm3 zmf0 zmf1 zmf2 zmf3 zb2 hb_; have BA := ba_; have BM := bm_; have AC := ac_; have HB := hb2_; clear ba_ bm_ ac_ hb2_; have za0 : wp.cell? ⟨a, 0, none⟩ = some (.slice none 0 0) := (blk_cell BA.out 0).trans rfl; have zaf0 := blk_frozen BA.out 0; have za1 : wp.cell? ⟨a, 1, none⟩ = some (.int .i64 0) := (blk_cell BA.out 1).trans rfl; have zaf1 := blk_frozen BA.out 1; have za2 : wp.cell? ⟨a, 2, none⟩ = some (.int .i64 0) := (blk_cell BA.out 2).trans rfl; have zaf2 := blk_frozen BA.out 2; have za3 : wp.cell? ⟨a, 3, none⟩ = some (.int .i64 0) := (blk_cell BA.out 3).trans rfl; have zaf3 := blk_frozen BA.out 3; have zm0 : wp.cell? ⟨m, 0, none⟩ = some (.slice Av acc.length cv) := (blk_cell BM.out 0).trans rfl; have zmf0 := blk_frozen BM.out 0; have zm1 : wp.cell? ⟨m, 1, none⟩ = some (.int .i64 v0) := (blk_cell BM.out 1).trans rfl; have zmf1 := blk_frozen BM.out 1; have zm2 : wp.cell? ⟨m, 2, none⟩ = some (.int .i64 v1) := (blk_cell BM.out 2).trans rfl; have zmf2 := blk_frozen BM.out 2; have zm3 : wp.cell? ⟨m, 3, none⟩ = some (.int .i64 v2) := (blk_cell BM.out 3).trans rfl; have zmf3 := blk_frozen BM.out 3))
      simp only [Option.some.injEq, Prod.mk.injEq] at E2
      obtain ⟨rfl, rfl, rfl, rfl, rfl⟩ := E2
      exact lysimeterref16_ReadManifest.fail_ a _ _ w _ rfl BA.out GA.out HB.out rfl rfl
     case pos =>
     subst hte
     have hteb : ((0 : Int) != 0) = false := rfl
     by_cases hqq : q1.toList = q0.toList
     case neg =>
      have hqqb : (q1.toList == q0.toList) = false := beq_eq_false_iff_ne.mpr hqq
      rw [if_neg (fun h => hqq h.2)] at E2
      clear hqq
      go_wp2_with (first | (go_at_call 78; (with_reducible refine (lysimeterref16_Manifest.calls k Av cv acc v0 v1 v2 tr _ _ ?s1 ?s2 HM.out).mono ?_); (case s1 => exact CA.out); (case s2 => exact HCA.out); rintro e wp ⟨vp, rfl, hvp, hb_⟩; obtain ⟨Ap, cp, rfl, hcp, hrp⟩ := Kd.R_reads hvp; have st1 := Kd.C_string (P := Try.prog) (A := Ap) (c := cp) Try.underlying22 Try.underlying5 Try.underlying9 hrp; have st0 := Kd.C_string (P := Try.prog) (A := A0) (c := c0) Try.underlying22 Try.underlying5 Try.underlying9 (Kd.C_below CR.out (below_step HB.out hb_)); rw [← Q1.out] at st1; rw [← Q0.out] at st0; clear hvp hcp hrp; have ba_ := Aside0.mk (blk_below BA.out hb_); have bm_ := Aside0.mk (blk_below BM.out hb_); have ac_ := Aside0.mk (Kd.R_below AC.out hb_); have hb2_ := Aside0.mk (below_step HB.out hb_); clear BA BM AC HB za0 za1 za2 za3 zaf0 zaf1 zaf2 zaf3 zm0 zm1 zm2 zm3 zmf0 zmf1 zmf2 zmf3 zb2 hb_; have BA := ba_; have BM := bm_; have AC := ac_; have HB := hb2_; clear ba_ bm_ ac_ hb2_; have za0 : wp.cell? ⟨a, 0, none⟩ = some (.slice none 0 0) := (blk_cell BA.out 0).trans rfl; have zaf0 := blk_frozen BA.out 0; have za1 : wp.cell? ⟨a, 1, none⟩ = some (.int .i64 0) := (blk_cell BA.out 1).trans rfl; have zaf1 := blk_frozen BA.out 1; have za2 : wp.cell? ⟨a, 2, none⟩ = some (.int .i64 0) := (blk_cell BA.out 2).trans rfl; have zaf2 := blk_frozen BA.out 2; have za3 : wp.cell? ⟨a, 3, none⟩ = some (.int .i64 0) := (blk_cell BA.out 3).trans rfl; have zaf3 := blk_frozen BA.out 3; have zm0 : wp.cell? ⟨m, 0, none⟩ = some (.slice Av acc.length cv) := (blk_cell BM.out 0).trans rfl; have zmf0 := blk_frozen BM.out 0; have zm1 : wp.cell? ⟨m, 1, none⟩ = some (.int .i64 v0) := (blk_cell BM.out 1).trans rfl; have zmf1 := blk_frozen BM.out 1; have zm2 : wp.cell? ⟨m, 2, none⟩ = some (.int .i64 v1) := (blk_cell BM.out 2).trans rfl; have zmf2 := blk_frozen BM.out 2; have zm3 : wp.cell? ⟨m, 3, none⟩ = some (.int .i64 v2) := (blk_cell BM.out 3).trans rfl; have zmf3 := blk_frozen BM.out 3))
      simp only [Option.some.injEq, Prod.mk.injEq] at E2
      obtain ⟨rfl, rfl, rfl, rfl, rfl⟩ := E2
      exact lysimeterref16_ReadManifest.fail_ a _ _ w _ rfl BA.out GA.out HB.out rfl rfl
     case pos =>
     have hqqb : (q1.toList == q0.toList) = true := beq_iff_eq.mpr hqq
     rw [if_pos ⟨rfl, hqq⟩] at E2
     clear hqq
     go_wp2_with (first | (go_at_call 78; (with_reducible refine (lysimeterref16_Manifest.calls k Av cv acc v0 v1 v2 tr _ _ ?s1 ?s2 HM.out).mono ?_); (case s1 => exact CA.out); (case s2 => exact HCA.out); rintro e wp ⟨vp, rfl, hvp, hb_⟩; obtain ⟨Ap, cp, rfl, hcp, hrp⟩ := Kd.R_reads hvp; have st1 := Kd.C_string (P := Try.prog) (A := Ap) (c := cp) Try.underlying22 Try.underlying5 Try.underlying9 hrp; have st0 := Kd.C_string (P := Try.prog) (A := A0) (c := c0) Try.underlying22 Try.underlying5 Try.underlying9 (Kd.C_below CR.out (below_step HB.out hb_)); rw [← Q1.out] at st1; rw [← Q0.out] at st0; clear hvp hcp hrp; have ba_ := Aside0.mk (blk_below BA.out hb_); have bm_ := Aside0.mk (blk_below BM.out hb_); have ac_ := Aside0.mk (Kd.R_below AC.out hb_); have hb2_ := Aside0.mk (below_step HB.out hb_); clear BA BM AC HB za0 za1 za2 za3 zaf0 zaf1 zaf2 zaf3 zm0 zm1 zm2 zm3 zmf0 zmf1 zmf2 zmf3 zb2 hb_; have BA := ba_; have BM := bm_; have AC := ac_; have HB := hb2_; clear ba_ bm_ ac_ hb2_; have za0 : wp.cell? ⟨a, 0, none⟩ = some (.slice none 0 0) := (blk_cell BA.out 0).trans rfl; have zaf0 := blk_frozen BA.out 0; have za1 : wp.cell? ⟨a, 1, none⟩ = some (.int .i64 0) := (blk_cell BA.out 1).trans rfl; have zaf1 := blk_frozen BA.out 1; have za2 : wp.cell? ⟨a, 2, none⟩ = some (.int .i64 0) := (blk_cell BA.out 2).trans rfl; have zaf2 := blk_frozen BA.out 2; have za3 : wp.cell? ⟨a, 3, none⟩ = some (.int .i64 0) := (blk_cell BA.out 3).trans rfl; have zaf3 := blk_frozen BA.out 3; have zm0 : wp.cell? ⟨m, 0, none⟩ = some (.slice Av acc.length cv) := (blk_cell BM.out 0).trans rfl; have zmf0 := blk_frozen BM.out 0; have zm1 : wp.cell? ⟨m, 1, none⟩ = some (.int .i64 v0) := (blk_cell BM.out 1).trans rfl; have zmf1 := blk_frozen BM.out 1; have zm2 : wp.cell? ⟨m, 2, none⟩ = some (.int .i64 v1) := (blk_cell BM.out 2).trans rfl; have zmf2 := blk_frozen BM.out 2; have zm3 : wp.cell? ⟨m, 3, none⟩ = some (.int .i64 v2) := (blk_cell BM.out 3).trans rfl; have zmf3 := blk_frozen BM.out 3))
     simp only [Option.some.injEq, Prod.mk.injEq] at E2
     obtain ⟨rfl, rfl, rfl, rfl, rfl⟩ := E2
     exact lysimeterref16_ReadManifest.good_ a _ _ acc v0 v1 v2 _ w _ rfl BA.out GA.out HB.out (Kd.R_mono AC.out (fun _ hk => hk.1)) rfl rfl
end


/-! ### lysimeterlaw17_num: function 18 -/
def lysimeterlaw17_num.f (a0 : Int) : Option (Int) := some a0
set_option maxHeartbeats 8000000 in
set_option maxRecDepth 100000 in
theorem lysimeterlaw17_num.calls (a0 : Int) (r : Int) (w : World) (h : lysimeterlaw17_num.f a0 = some r) :
  Calls Try.prog 18 #[.int .i64 a0] w fun e w' => e = .returned (.int .i64 r) ∧ Drawn0 w w' := by
 have H : (some a0) = some r := h
 clear h
 obtain rfl := Option.some.inj H
 go_enter Try.func18, Try.ntmps18
 go_wp2
 go_ret
 exact ⟨by first | rfl | (simp; done) | (simp [*]; done), by repeat (first | exact Drawn0.refl _ | apply Drawn0.step)⟩

end Go.Proofs.Ytjilnpbgclnecac.PManifestReads
