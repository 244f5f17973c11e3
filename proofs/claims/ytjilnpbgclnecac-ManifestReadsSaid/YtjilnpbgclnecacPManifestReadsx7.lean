/- Written by a program of this session out of the translation: for Go functions Lean functions of the same answers, and the proof that the calls come to these answers. -/
import Derived.Defers
import Derived.Recover
import Derived.WalkLawsBesides
import Derived.Test.YtjilnpbgclnecacXTight
import Derived.Test.YtjilnpbgclnecacPManifestReadsx0
import Derived.Test.YtjilnpbgclnecacPManifestReadsx4
import Derived.Test.YtjilnpbgclnecacPManifestReadsx5
import Derived.Test.YtjilnpbgclnecacPManifestReadsx6
namespace Go.Proofs.Ytjilnpbgclnecac.PManifestReads
open Go.RowKit Go.Proofs.YtjilnpbgclnecacW.PrintWords Go.Proofs.YtjilnpbgclnecacW.PrintLast Go.Proofs.YtjilnpbgclnecacW.PrintMore Go.Proofs.Ytjilnpbgclnecac.XB
attribute [local go_sem] sg_u8 sg_u16 sg_u32 sg_u64 mx_u8 mx_u16 mx_u32 mx_u64
attribute [local go_sem] max2_int min2_int max_two min_two max_three min_three max_four min_four   -- for this text's walks alone
set_option linter.unusedVariables false
set_option linter.unusedSimpArgs false

/-! ### manifest_Unpack: function 16 -/
/-- A field that is read: none: this can't be told; some none: the bytes are none. -/
def manifest_Unpack.get (t : Option (Int × Int × Int)) (l : List Int) : Option (Option (Int × List Int)) :=
 t.bind fun t => if t.2.2 = 0 then (if 0 ≤ t.2.1 ∧ t.2.1 ≤ (l.length : Int) then some (some (t.1, l.drop t.2.1.toNat)) else none) else some none
def manifest_Unpack.num (k : Nat) (l : List Int) : Option (Option (Int × List Int)) := manifest_Unpack.get (varint_Get.f k l) l
def manifest_Unpack.sgn (k : Nat) (l : List Int) : Option (Option (Int × List Int)) := manifest_Unpack.get (varint_GetSigned.f k l) l
def manifest_Unpack.nx {α β : Type} (x : Option (Option α)) (bad : β) (f : α → Option β) : Option β := x.bind fun y => match y with | none => some bad | some z => f z
def manifest_Unpack.lp (k : Nat) : Nat → List Int → List S114 → Option (Option (List S114))
 | 0, _, acc => some (some acc)
 | m + 1, l, acc => manifest_Unpack.nx (manifest_Unpack.num k l) none fun x0 => manifest_Unpack.nx (manifest_Unpack.num k x0.2) none fun x1 => manifest_Unpack.nx (manifest_Unpack.sgn k x1.2) none fun x2 => manifest_Unpack.nx (manifest_Unpack.sgn k x2.2) none fun x3 => manifest_Unpack.lp k m x3.2 (acc ++ [⟨x0.1, x1.1, x2.1, x3.1⟩])
def manifest_Unpack.f (k : Nat) (l0 : List Int) : Option (List S114 × Int × Int × Int × Int) :=
 (bytes_HasPrefix.f l0 [76, 89, 83, 77]).bind fun p =>
  if p = true then (if 4 ≤ l0.length then
   manifest_Unpack.nx (manifest_Unpack.num k (l0.drop 4)) ([], 0, 0, 0, 5) fun x0 => manifest_Unpack.nx (manifest_Unpack.num k x0.2) ([], 0, 0, 0, 5) fun x1 => manifest_Unpack.nx (manifest_Unpack.sgn k x1.2) ([], 0, 0, 0, 5) fun x2 => manifest_Unpack.nx (manifest_Unpack.num k x2.2) ([], 0, 0, 0, 5) fun x3 =>
    if x3.1 < 0 ∨ x3.1 > 200 then some ([], 0, 0, 0, 5)
    else manifest_Unpack.nx (manifest_Unpack.lp k x3.1.toNat x3.2 []) ([], 0, 0, 0, 5) fun bs =>
     (manifest_Pack.f k bs x0.1 x1.1 x2.1).bind fun t =>
      if t.2 = 0 then (bytes_Equal.f t.1 l0).bind fun q => if q = true then some (bs, x0.1, x1.1, x2.1, 0) else some ([], 0, 0, 0, 5)
      else some ([], 0, 0, 0, 5)
   else none)
  else some ([], 0, 0, 0, 5)
theorem manifest_Unpack.get_mono {a b : Option (Int × Int × Int)} (h : LeO a b) (l : List Int) : LeO (manifest_Unpack.get a l) (manifest_Unpack.get b l) := LeO.bind h fun _ => LeO.refl _
theorem manifest_Unpack.num_mono (l : List Int) (k : Nat) : LeO (manifest_Unpack.num k l) (manifest_Unpack.num (k + 1) l) := manifest_Unpack.get_mono (varint_Get.mono _ _) l
theorem manifest_Unpack.sgn_mono (l : List Int) (k : Nat) : LeO (manifest_Unpack.sgn k l) (manifest_Unpack.sgn (k + 1) l) := manifest_Unpack.get_mono (varint_GetSigned.mono _ _) l
theorem manifest_Unpack.nx_mono {α β : Type} {x y : Option (Option α)} (bad : β) {f g : α → Option β} (h : LeO x y) (hf : ∀ z, LeO (f z) (g z)) : LeO (manifest_Unpack.nx x bad f) (manifest_Unpack.nx y bad g) := LeO.bind h fun z => by cases z <;> first | exact LeO.refl _ | exact hf _
theorem manifest_Unpack.lp_mono (k : Nat) : ∀ m l acc, LeO (manifest_Unpack.lp k m l acc) (manifest_Unpack.lp (k + 1) m l acc)
 | 0, _, _ => LeO.refl _
 | m + 1, l, acc => manifest_Unpack.nx_mono _ (manifest_Unpack.num_mono _ _) fun _ => manifest_Unpack.nx_mono _ (manifest_Unpack.num_mono _ _) fun _ => manifest_Unpack.nx_mono _ (manifest_Unpack.sgn_mono _ _) fun _ => manifest_Unpack.nx_mono _ (manifest_Unpack.sgn_mono _ _) fun _ => manifest_Unpack.lp_mono k m _ _
theorem manifest_Unpack.mono : ∀ a0 k, LeO (manifest_Unpack.f k a0) (manifest_Unpack.f (k + 1) a0) := by
 intro a0 k
 exact LeO.bind (LeO.refl _) fun p => LeO.ite (LeO.ite (manifest_Unpack.nx_mono _ (manifest_Unpack.num_mono _ _) fun _ => manifest_Unpack.nx_mono _ (manifest_Unpack.num_mono _ _) fun _ => manifest_Unpack.nx_mono _ (manifest_Unpack.sgn_mono _ _) fun _ => manifest_Unpack.nx_mono _ (manifest_Unpack.num_mono _ _) fun _ => LeO.ite (LeO.refl _) (manifest_Unpack.nx_mono _ (manifest_Unpack.lp_mono _ _ _ _) fun _ => LeO.bind (manifest_Pack.mono _ _ _ _ _) fun _ => LeO.refl _)) (LeO.refl _)) (LeO.refl _)
-- WALK
section
open Go.Proofs.Ytjilnpbgclnecac
theorem manifest_Unpack.nx_cases {α β : Type} {x : Option (Option α)} {bad r : β} {f : α → Option β} (h : manifest_Unpack.nx x bad f = some r) : (x = some none ∧ some bad = some r) ∨ ∃ z, x = some (some z) ∧ f z = some r := by
 unfold manifest_Unpack.nx at h
 obtain ⟨y, hy, h⟩ := Option.bind_eq_some_iff.mp h
 cases y with
 | none => exact .inl ⟨hy, h⟩
 | some z => exact .inr ⟨z, hy, h⟩
/-- A reader: its row lies in the world ahead of the call. -/
structure manifest_Unpack.RD (w0 W : World) (g : Nat) (l : List Int) : Prop where
 v : ∃ A c, W.heap[g]? = some (.cells #[.slice A l.length c] 112 (0, 0)) ∧ Kd.C (Kd.int .u8) w0 A l.length l ∧ l.length ≤ c
 b : w0.heap.size ≤ g
theorem manifest_Unpack.RD.kept {w0 W W' : World} {g : Nat} {l : List Int} {S : Nat → Prop} (h : manifest_Unpack.RD w0 W g l) (hk : Kept W W' S) (hs : ¬ S g) : manifest_Unpack.RD w0 W' g l := by
 obtain ⟨⟨A, c, h1, h2⟩, h3⟩ := h
 exact ⟨⟨A, c, blk_kept h1 hk hs, h2⟩, h3⟩
/-- What a call of get by f does. -/
def manifest_Unpack.Gets (x : Option (Option (Int × List Int))) (w0 : World) (g : Nat) (w : World) (e : Ending) (w' : World) : Prop :=
 match x with
 | none => True
 | some none => e = .panicked [{ v := .iface 107 (.agg #[]), recovered := false }] ∧ Below w0.heap.size w0 w' ∧ Kept w w' (fun k => k = g)
 | some (some y) => e = .returned (.int .i64 y.1) ∧ manifest_Unpack.RD w0 w' g y.2 ∧ Below w0.heap.size w0 w' ∧ Kept w w' (fun k => k = g)
set_option maxHeartbeats 4000000 in
set_option maxRecDepth 100000 in
theorem manifest_Unpack.get_bad (f : Nat) (g : Nat) (l : List Int) (r : Int × Int × Int) (w0 w : World) (hf : ∀ (A : Option Addr) (c : Nat) (W : World), Kd.C (Kd.int .u8) W A l.length l → l.length ≤ c → Calls Try.prog f #[.slice A l.length c] W fun e w' => e = .returned (.tuple #[.int .i64 r.1, .int .i64 r.2.1, .int .i64 r.2.2]) ∧ Drawn0 W w')
  (hB : Below w0.heap.size w0 w) (hD : manifest_Unpack.RD w0 w g l) (he : r.2.2 ≠ 0) (hff : f = 124 ∨ f = 125) :
  Calls Try.prog 123 #[.pointer (some ⟨g, 0, none⟩), .func (.func f) #[] #[]] w fun e w' => e = .panicked [{ v := .iface 107 (.agg #[]), recovered := false }] ∧ Below w0.heap.size w0 w' ∧ Kept w w' (fun k => k = g) := by
 obtain ⟨⟨A, c, hb, hC, hc⟩, hbg⟩ := hD
 obtain ⟨n, kk, e⟩ := r
 have HF := Aside0.mk (hf A c)
 have HB := Aside0.mk hB
 have HC := Aside0.mk hC
 have HCC := Aside0.mk hc
 have heb : (e != 0) = true := bne_iff_ne.mpr he
 have z0 : w.cell? ⟨g, 0, none⟩ = some (.slice A l.length c) := (blk_cell hb 0).trans rfl
 clear hf hB hC hc he hb hbg
 rcases hff with rfl | rfl
 ·go_enter Try.func123, Try.ntmps123
  go_wp2_with (go_at_call 124; (with_reducible refine (HF.out _ (Kd.C_below HC.out HB.out) HCC.out).mono ?_); rintro e w1 ⟨rfl, hd⟩)
  exact ⟨rfl, rfl, below_step HB.out hd.below, (Kept.refl w _).below hd.below⟩
 ·go_enter Try.func123, Try.ntmps123
  go_wp2_with (go_at_call 125; (with_reducible refine (HF.out _ (Kd.C_below HC.out HB.out) HCC.out).mono ?_); rintro e w1 ⟨rfl, hd⟩)
  exact ⟨rfl, rfl, below_step HB.out hd.below, (Kept.refl w _).below hd.below⟩
set_option maxHeartbeats 4000000 in
set_option maxRecDepth 100000 in
theorem manifest_Unpack.get_ok (f : Nat) (g : Nat) (l : List Int) (r : Int × Int × Int) (w0 w : World) (hf : ∀ (A : Option Addr) (c : Nat) (W : World), Kd.C (Kd.int .u8) W A l.length l → l.length ≤ c → Calls Try.prog f #[.slice A l.length c] W fun e w' => e = .returned (.tuple #[.int .i64 r.1, .int .i64 r.2.1, .int .i64 r.2.2]) ∧ Drawn0 W w')
  (hB : Below w0.heap.size w0 w) (hD : manifest_Unpack.RD w0 w g l) (he : r.2.2 = 0) (hk0 : 0 ≤ r.2.1) (hk1 : r.2.1 ≤ l.length) (hff : f = 124 ∨ f = 125) :
  Calls Try.prog 123 #[.pointer (some ⟨g, 0, none⟩), .func (.func f) #[] #[]] w fun e w' => e = .returned (.int .i64 r.1) ∧ manifest_Unpack.RD w0 w' g (l.drop r.2.1.toNat) ∧ Below w0.heap.size w0 w' ∧ Kept w w' (fun k => k = g) := by
 obtain ⟨⟨A, c, hb, hC, hc⟩, hbg⟩ := hD
 obtain ⟨n, kk, e⟩ := r
 simp only at he hk0 hk1 hf
 subst he
 obtain ⟨i0, hi0, _, hsz0, _⟩ := info_parts info5
 have hcut := cut_from (P := Try.prog) 22 5 .i64 Try.underlying22 hi0 1 hsz0 A l.length c kk hk0 hk1
 have hC2 := Kd.C_drop (m := kk.toNat) hC (by omega) hc
 rw [show (Kd.int .u8).sz = 1 from rfl] at hC2
 have hln : (l.drop kk.toNat).length = l.length - kk.toNat := List.length_drop
 obtain ⟨A2, hA2⟩ : ∃ A2, (if c = kk.toNat then A else A.map (·.add (kk.toNat * 1))) = A2 := ⟨_, rfl⟩
 rw [hA2] at hcut hC2
 have HF := Aside0.mk (hf A c)
 have HB := Aside0.mk hB
 have HBK := Aside0.mk hb
 have HC := Aside0.mk hC
 have HC2 := Aside0.mk hC2
 have HCC := Aside0.mk hc
 have HG := Aside0.mk hbg
 have HLN := Aside0.mk hln
 have HK := Aside0.mk hk1
 have z0 : w.cell? ⟨g, 0, none⟩ = some (.slice A l.length c) := (blk_cell hb 0).trans rfl
 have zf0 := blk_frozen hb 0
 clear hf hB hC hc hb hbg hC2 hA2 hi0 hsz0 hln hk0 hk1
 rcases hff with rfl | rfl
 ·go_enter Try.func123, Try.ntmps123
  go_wp2_with (go_at_call 124; (with_reducible refine (HF.out _ (Kd.C_below HC.out HB.out) HCC.out).mono ?_); rintro e w1 ⟨rfl, hd⟩; have HD := Aside0.mk hd; have hbk1 := blk_below HBK.out hd.below; clear hd z0 zf0; have z0 : w1.cell? ⟨g, 0, none⟩ = some (.slice A l.length c) := (blk_cell hbk1 0).trans rfl; have zf0 := blk_frozen hbk1 0; have HBK1 := Aside0.mk hbk1; clear hbk1)
  go_ret
  have hl := HLN.out
  refine ⟨rfl, ⟨⟨A2, c - kk.toNat, ?_, HC2.out, ?_⟩, HG.out⟩, ?_, ?_⟩
  ·rw [hl]; exact blk_put HBK1.out 0 _ rfl
  ·have := HCC.out; have := HK.out; omega
  ·exact (below_step HB.out HD.out.below).setCell (p := ⟨g, 0, none⟩) HG.out _
  ·exact ((Kept.refl w (fun k => k = g)).below HD.out.below).setCell (p := ⟨g, 0, none⟩) (.inl rfl) _
 ·go_enter Try.func123, Try.ntmps123
  go_wp2_with (go_at_call 125; (with_reducible refine (HF.out _ (Kd.C_below HC.out HB.out) HCC.out).mono ?_); rintro e w1 ⟨rfl, hd⟩; have HD := Aside0.mk hd; have hbk1 := blk_below HBK.out hd.below; clear hd z0 zf0; have z0 : w1.cell? ⟨g, 0, none⟩ = some (.slice A l.length c) := (blk_cell hbk1 0).trans rfl; have zf0 := blk_frozen hbk1 0; have HBK1 := Aside0.mk hbk1; clear hbk1)
  go_ret
  have hl := HLN.out
  refine ⟨rfl, ⟨⟨A2, c - kk.toNat, ?_, HC2.out, ?_⟩, HG.out⟩, ?_, ?_⟩
  ·rw [hl]; exact blk_put HBK1.out 0 _ rfl
  ·have := HCC.out; have := HK.out; omega
  ·exact (below_step HB.out HD.out.below).setCell (p := ⟨g, 0, none⟩) HG.out _
  ·exact ((Kept.refl w (fun k => k = g)).below HD.out.below).setCell (p := ⟨g, 0, none⟩) (.inl rfl) _

theorem manifest_Unpack.number (k : Nat) (g : Nat) (l : List Int) (w0 w : World) (hB : Below w0.heap.size w0 w) (hD : manifest_Unpack.RD w0 w g l) (x : Option (Int × List Int)) (hx : manifest_Unpack.num k l = some x) :
  Calls Try.prog 72 #[.pointer (some ⟨g, 0, none⟩)] w (manifest_Unpack.Gets (some x) w0 g w) := by
 unfold manifest_Unpack.num manifest_Unpack.get at hx
 obtain ⟨r, h1, h2⟩ := Option.bind_eq_some_iff.mp hx
 have HF : ∀ (A : Option Addr) (c : Nat) (W : World), Kd.C (Kd.int .u8) W A l.length l → l.length ≤ c → Calls Try.prog 124 #[.slice A l.length c] W fun e w' => e = .returned (.tuple #[.int .i64 r.1, .int .i64 r.2.1, .int .i64 r.2.2]) ∧ Drawn0 W w' :=
  fun A c W hc hl => varint_Get.calls k A c l r.1 r.2.1 r.2.2 W hc hl h1
 by_cases he : r.2.2 = 0
 ·rw [if_pos he] at h2
  by_cases hk : 0 ≤ r.2.1 ∧ r.2.1 ≤ (l.length : Int)
  ·rw [if_pos hk] at h2
   have h3 : some (r.1, l.drop r.2.1.toNat) = x := by simpa using h2
   subst h3
   have HG := Aside0.mk (manifest_Unpack.get_ok 124 g l r w0 w HF hB hD he hk.1 hk.2 (by decide))
   clear HF hB hD he hk h1 h2 hx
   go_enter Try.func72, Try.ntmps72
   go_wp2_with (go_at_call 123; (with_reducible refine HG.out.mono ?_); rintro e w1 ⟨rfl, h1, h2, h3⟩)
   go_ret
   exact ⟨rfl, h1, h2, h3⟩
  ·rw [if_neg hk] at h2; cases h2
 ·rw [if_neg he] at h2
  have h3 : none = x := by simpa using h2
  subst h3
  have HG := Aside0.mk (manifest_Unpack.get_bad 124 g l r w0 w HF hB hD he (by decide))
  clear HF hB hD he h1 h2 hx
  go_enter Try.func72, Try.ntmps72
  go_wp2_with (go_at_call 123; (with_reducible refine HG.out.mono ?_); rintro e w1 ⟨rfl, h2, h3⟩)
  exact ⟨rfl, rfl, h2, h3⟩
theorem manifest_Unpack.signed (k : Nat) (g : Nat) (l : List Int) (w0 w : World) (hB : Below w0.heap.size w0 w) (hD : manifest_Unpack.RD w0 w g l) (x : Option (Int × List Int)) (hx : manifest_Unpack.sgn k l = some x) :
  Calls Try.prog 73 #[.pointer (some ⟨g, 0, none⟩)] w (manifest_Unpack.Gets (some x) w0 g w) := by
 unfold manifest_Unpack.sgn manifest_Unpack.get at hx
 obtain ⟨r, h1, h2⟩ := Option.bind_eq_some_iff.mp hx
 have HF : ∀ (A : Option Addr) (c : Nat) (W : World), Kd.C (Kd.int .u8) W A l.length l → l.length ≤ c → Calls Try.prog 125 #[.slice A l.length c] W fun e w' => e = .returned (.tuple #[.int .i64 r.1, .int .i64 r.2.1, .int .i64 r.2.2]) ∧ Drawn0 W w' :=
  fun A c W hc hl => varint_GetSigned.calls k A c l r.1 r.2.1 r.2.2 W hc hl h1
 by_cases he : r.2.2 = 0
 ·rw [if_pos he] at h2
  by_cases hk : 0 ≤ r.2.1 ∧ r.2.1 ≤ (l.length : Int)
  ·rw [if_pos hk] at h2
   have h3 : some (r.1, l.drop r.2.1.toNat) = x := by simpa using h2
   subst h3
   have HG := Aside0.mk (manifest_Unpack.get_ok 125 g l r w0 w HF hB hD he hk.1 hk.2 (by decide))
   clear HF hB hD he hk h1 h2 hx
   go_enter Try.func73, Try.ntmps73
   go_wp2_with (go_at_call 123; (with_reducible refine HG.out.mono ?_); rintro e w1 ⟨rfl, h1, h2, h3⟩)
   go_ret
   exact ⟨rfl, h1, h2, h3⟩
  ·rw [if_neg hk] at h2; cases h2
 ·rw [if_neg he] at h2
  have h3 : none = x := by simpa using h2
  subst h3
  have HG := Aside0.mk (manifest_Unpack.get_bad 125 g l r w0 w HF hB hD he (by decide))
  clear HF hB hD he h1 h2 hx
  go_enter Try.func73, Try.ntmps73
  go_wp2_with (go_at_call 123; (with_reducible refine HG.out.mono ?_); rintro e w1 ⟨rfl, h2, h3⟩)
  exact ⟨rfl, rfl, h2, h3⟩
set_option maxHeartbeats 4000000 in
theorem manifest_Unpack.catch_panicking (a b : Nat) (m : Array Value) (y : Int) (w : World) (hm : m.size = 4) (ha : w.heap[a]? = some (.cells m 26 (0, 0))) (hb : w.heap[b]? = some (.cells #[.int .i64 y] 27 (0, 0))) (hab : a ≠ b) :
  CallsD Try.prog 70 #[.pointer (some ⟨a, 0, none⟩), .pointer (some ⟨b, 0, none⟩)] (.panicking [{ v := .iface 107 (.agg #[]), recovered := false }]) w fun e u' w' =>
   e = .returned (.tuple #[]) ∧ u' = .panicking [{ v := .iface 107 (.agg #[]), recovered := true }] ∧ w'.heap[a]? = some (.cells #[.slice none 0 0, .int .i64 0, .int .i64 0, .int .i64 0] 26 (0, 0)) ∧ w'.heap[b]? = some (.cells #[.int .i64 5] 27 (0, 0)) ∧ Kept w w' (fun k => k = a ∨ k = b) ∧ w'.os = w.os ∧ w'.tape = w.tape ∧ w'.output = w.output := by
 have hu26 := Try.underlying26
 obtain ⟨m0, m1, m2, m3, rfl⟩ : ∃ m0 m1 m2 m3, m = #[m0, m1, m2, m3] := by
  rcases m with ⟨l⟩
  match l, hm with
  | [a, b, c, d], _ => exact ⟨a, b, c, d, rfl⟩
 have HA := Aside0.mk ha
 have HB := Aside0.mk hb
 clear ha hb
 refine callsD_of_wpS Try.func70 rfl fun c₀ cs hu => ?_
 apply wpS_seq
 apply wpS_region
 simp [wpOpsS, go_sem, recoverD, hu, Try.ntmps70, Exit.thenS]
 have c0 : w.cell? ⟨a, 0, none⟩ = some m0 := (blk_cell HA.out 0).trans rfl
 have c1 : w.cell? ⟨a, 1, none⟩ = some m1 := (blk_cell HA.out 1).trans rfl
 have c2 : w.cell? ⟨a, 2, none⟩ = some m2 := (blk_cell HA.out 2).trans rfl
 have c3 : w.cell? ⟨a, 3, none⟩ = some m3 := (blk_cell HA.out 3).trans rfl
 have f0 := blk_frozen HA.out 0
 have f1 := blk_frozen HA.out 1
 have f2 := blk_frozen HA.out 2
 have f3 := blk_frozen HA.out 3
 have d0 : w.cell? ⟨b, 0, none⟩ = some (.int .i64 y) := (blk_cell HB.out 0).trans rfl
 have d1 := blk_frozen HB.out 0
 have hta : ∀ (v : Value) (W : World), (Instr.typeAssert (.iface 107 v) 20 107 true).run Try.prog W = .ok (.tuple #[v, .bool true]) W := fun _ _ => by kernel_rfl
 have hn0 : a < w.heap.size := blk_lt HA.out
 have hn1 : b < w.heap.size := blk_lt HB.out
 apply wpS_of_wp
 simp only [List.replicate, Array.replicate_succ, Array.replicate_zero, List.push_toArray, List.append_toArray, List.nil_append, List.cons_append, List.setIfInBounds_toArray, List.set_cons_succ, List.set_cons_zero]
 go_wp2
 obtain ⟨W1, hW1⟩ : ∃ W1, w.setCell ⟨a, 0, none⟩ (.slice none 0 0) = W1 := ⟨_, rfl⟩
 have k1 : W1.heap[a]? = some (.cells #[.slice none 0 0, m1, m2, m3] 26 (0, 0)) := by rw [← hW1]; exact blk_put HA.out 0 _ rfl
 have b1 : W1.heap[b]? = some (.cells #[.int .i64 y] 27 (0, 0)) := by rw [← hW1]; exact blk_far HB.out (p := ⟨a, 0, none⟩) (Ne.symm hab) _
 have c1 : Kept w W1 (fun k => k = a ∨ k = b) := by rw [← hW1]; exact (Kept.refl w (fun k => k = a ∨ k = b)).setCell (p := ⟨a, 0, none⟩) (.inl (.inl rfl)) _
 have o1 : W1.os = w.os ∧ W1.tape = w.tape ∧ W1.output = w.output := by rw [← hW1]; exact ⟨rfl, rfl, rfl⟩
 rw [hW1]
 clear hW1
 obtain ⟨W2, hW2⟩ : ∃ W2, W1.setCell ⟨a, 1, none⟩ (.int .i64 0) = W2 := ⟨_, rfl⟩
 have k2 : W2.heap[a]? = some (.cells #[.slice none 0 0, .int .i64 0, m2, m3] 26 (0, 0)) := by rw [← hW2]; exact blk_put k1 1 _ rfl
 have b2 : W2.heap[b]? = some (.cells #[.int .i64 y] 27 (0, 0)) := by rw [← hW2]; exact blk_far b1 (p := ⟨a, 1, none⟩) (Ne.symm hab) _
 have c2 : Kept w W2 (fun k => k = a ∨ k = b) := by rw [← hW2]; exact c1.setCell (p := ⟨a, 1, none⟩) (.inl (.inl rfl)) _
 have o2 : W2.os = w.os ∧ W2.tape = w.tape ∧ W2.output = w.output := by rw [← hW2]; exact o1
 rw [hW2]
 clear hW2
 obtain ⟨W3, hW3⟩ : ∃ W3, W2.setCell ⟨a, 2, none⟩ (.int .i64 0) = W3 := ⟨_, rfl⟩
 have k3 : W3.heap[a]? = some (.cells #[.slice none 0 0, .int .i64 0, .int .i64 0, m3] 26 (0, 0)) := by rw [← hW3]; exact blk_put k2 2 _ rfl
 have b3 : W3.heap[b]? = some (.cells #[.int .i64 y] 27 (0, 0)) := by rw [← hW3]; exact blk_far b2 (p := ⟨a, 2, none⟩) (Ne.symm hab) _
 have c3 : Kept w W3 (fun k => k = a ∨ k = b) := by rw [← hW3]; exact c2.setCell (p := ⟨a, 2, none⟩) (.inl (.inl rfl)) _
 have o3 : W3.os = w.os ∧ W3.tape = w.tape ∧ W3.output = w.output := by rw [← hW3]; exact o2
 rw [hW3]
 clear hW3
 obtain ⟨W4, hW4⟩ : ∃ W4, W3.setCell ⟨a, 3, none⟩ (.int .i64 0) = W4 := ⟨_, rfl⟩
 have k4 : W4.heap[a]? = some (.cells #[.slice none 0 0, .int .i64 0, .int .i64 0, .int .i64 0] 26 (0, 0)) := by rw [← hW4]; exact blk_put k3 3 _ rfl
 have b4 : W4.heap[b]? = some (.cells #[.int .i64 y] 27 (0, 0)) := by rw [← hW4]; exact blk_far b3 (p := ⟨a, 3, none⟩) (Ne.symm hab) _
 have c4 : Kept w W4 (fun k => k = a ∨ k = b) := by rw [← hW4]; exact c3.setCell (p := ⟨a, 3, none⟩) (.inl (.inl rfl)) _
 have o4 : W4.os = w.os ∧ W4.tape = w.tape ∧ W4.output = w.output := by rw [← hW4]; exact o3
 rw [hW4]
 clear hW4
 obtain ⟨W5, hW5⟩ : ∃ W5, W4.setCell ⟨b, 0, none⟩ (.int .i64 5) = W5 := ⟨_, rfl⟩
 have k5 : W5.heap[a]? = some (.cells #[.slice none 0 0, .int .i64 0, .int .i64 0, .int .i64 0] 26 (0, 0)) := by rw [← hW5]; exact blk_far k4 (p := ⟨b, 0, none⟩) hab _
 have b5 : W5.heap[b]? = some (.cells #[.int .i64 5] 27 (0, 0)) := by rw [← hW5]; exact blk_put b4 0 _ rfl
 have c5 : Kept w W5 (fun k => k = a ∨ k = b) := by rw [← hW5]; exact c4.setCell (p := ⟨b, 0, none⟩) (.inl (.inr rfl)) _
 have o5 : W5.os = w.os ∧ W5.tape = w.tape ∧ W5.output = w.output := by rw [← hW5]; exact o4
 rw [hW5]
 clear hW5
 exact ⟨rfl, _, rfl, _, results_none rfl _ _ _, rfl, rfl, blk_alloc k5 _, blk_alloc b5 _, c5.alloc _, o5.1, o5.2.1, o5.2.2⟩
theorem manifest_Unpack.catch_idle (a b : Nat) (w : World) :
  CallsD Try.prog 70 #[.pointer (some ⟨a, 0, none⟩), .pointer (some ⟨b, 0, none⟩)] .returning w fun e u' w' => e = .returned (.tuple #[]) ∧ u' = .returning ∧ w' = w := by
 refine callsD_of_wpS Try.func70 rfl fun c₀ cs hu => ?_
 apply wpS_seq
 apply wpS_region
 simp [wpOpsS, go_sem, recoverD, hu, Try.ntmps70, Exit.thenS]
 apply wpS_of_wp
 simp only [List.replicate, Array.replicate_succ, Array.replicate_zero, List.push_toArray, List.append_toArray, List.nil_append, List.cons_append, List.setIfInBounds_toArray, List.set_cons_succ, List.set_cons_zero]
 go_wp2
 cases c₀
 exact ⟨rfl, _, (by simp_all), _, results_none rfl _ _ _, rfl, rfl, rfl⟩
/-- What the call hands back, where it has given up. -/
def manifest_Unpack.Post (w : World) (r1 : List S114) (r2 r3 r4 r5 : Int) (e : Ending) (w' : World) : Prop :=
 ∃ v0_ : Value, e = .returned (.tuple #[.agg #[v0_, .int .i64 r2, .int .i64 r3, .int .i64 r4], .int .i64 r5]) ∧ Kd.R k114 114 w' w.heap.size (fun _ => True) v0_ r1 ∧ Below w.heap.size w w'
theorem manifest_Unpack.give_up (a b : Nat) (m : Array Value) (y : Int) (tmps : Array Value) (w W : World) (hm : m.size = 4) (ha : W.heap[a]? = some (.cells m 26 (0, 0))) (hb : W.heap[b]? = some (.cells #[.int .i64 y] 27 (0, 0))) (hab : a ≠ b) (hwa : w.heap.size ≤ a) (hwb : w.heap.size ≤ b) (hB : Below w.heap.size w W)
  (t2 : (tmps[2]?.getD undef) = .pointer (some ⟨a, 0, none⟩)) (t3 : (tmps[3]?.getD undef) = .pointer (some ⟨b, 0, none⟩)) :
  Leaves Try.prog Try.f16 tmps (manifest_Unpack.Post w [] 0 0 0 5) [{ target := .fn (.func 70) #[.pointer (some ⟨a, 0, none⟩), .pointer (some ⟨b, 0, none⟩)], args := #[] }] (.panicking [{ v := .iface 107 (.agg #[]), recovered := false }]) W := by
 refine leaves_cons (f := 70) (args := #[.pointer (some ⟨a, 0, none⟩), .pointer (some ⟨b, 0, none⟩)]) (by simp) (by simp [go_sem]) ?_
 refine (manifest_Unpack.catch_panicking a b m y _ hm ha hb hab).mono ?_
 rintro e u' w'' ⟨rfl, rfl, k2, k3, hkp, ho1, ho2, ho3⟩
 have hu26 := Try.underlying26
 have e0 := (blk_cell k2 0).trans (show (#[Value.slice none 0 0, Value.int .i64 0, Value.int .i64 0, Value.int .i64 0] : Array Value)[0]? = some (.slice none 0 0) from rfl)
 have e1 := (blk_cell k2 1).trans (show (#[Value.slice none 0 0, Value.int .i64 0, Value.int .i64 0, Value.int .i64 0] : Array Value)[1]? = some (.int .i64 0) from rfl)
 have e2 := (blk_cell k2 2).trans (show (#[Value.slice none 0 0, Value.int .i64 0, Value.int .i64 0, Value.int .i64 0] : Array Value)[2]? = some (.int .i64 0) from rfl)
 have e3 := (blk_cell k2 3).trans (show (#[Value.slice none 0 0, Value.int .i64 0, Value.int .i64 0, Value.int .i64 0] : Array Value)[3]? = some (.int .i64 0) from rfl)
 have e5 := (blk_cell k3 0).trans (show (#[Value.int .i64 5] : Array Value)[0]? = some (.int .i64 5) from rfl)
 refine ⟨.tuple #[.agg #[.slice none 0 0, .int .i64 0, .int .i64 0, .int .i64 0], .int .i64 5], ?_, _, rfl, Kd.R_nil _ _ _ _ _, ?_⟩
 ·simp [results, Try.results16, go_sem, t2, t3, e0, e1, e2, e3, e5, hu26]
 ·exact ⟨ho1.trans hB.os, ho2.trans hB.tape, ho3.trans hB.output, Nat.le_trans hB.size hkp.1, fun k hk => (hkp.2 k (by have := hB.size; omega) (by omega)).trans (hB.block k hk)⟩
section
variable {P : Program} {ops : Array Oper} {Q : Exit → Act → World → Prop}
/-- A call in a region that draws its order, which may give up. -/
theorem manifest_Unpack.goesP {oi : Oper} {N : Option Tmp} {a : Act} {w : World} {K : Act → World → Prop} {f : FuncId} {fn : Func} {os_ : Array Operand} {ts : Array TypeId} (hf : P.funcs[f]? = some fn) (hname : (fn.name == "runtime.NumGoroutine") = false) (hb : fn.body.isSome = true) (args : Array Value)
  (hw : Region.wanted oi (yielded ops a.tmps) = true) (hN : oi.dst = N) (hop : oi.op = .call { callee := .value (.func f), args := os_, argTypes := ts }) (hargs : os_.map a.eval = args)
  (h : Calls P f args w fun e w' => (∃ v, e = .returned v ∧ K (a.put N v) w') ∨ (∃ c, e = .panicked c ∧ Q (.panic c) a w')) : if Region.wanted oi (yielded ops a.tmps) = true then Oper.wp P oi a w K Q else K (a.put N undef) w := by
 rw [if_pos hw]
 subst hN
 have hrun : (execOp a.eval oi).run P w = .ok (.enter f args) w := by
  have he := enters_ hf hname hb args w
  unfold execOp
  simp [hop, resolve, Deferred.ofValue, invoke, Act.eval, hargs, he]
 unfold Oper.wp
 rw [hrun, Oper.upon_enter]
 refine h.mono fun e w'' hh => ?_
 rcases hh with ⟨v, rfl, hk⟩ | ⟨c, rfl, hk⟩
 ·exact hk
 ·exact hk
end
theorem manifest_Unpack.nx_split {α β : Type} {x : Option (Option α)} {bad r : β} {f : α → Option β} (h : manifest_Unpack.nx x bad f = some r) : ∃ u, x = some u ∧ (u = none → bad = r) ∧ ∀ z, u = some z → f z = some r := by
 rcases manifest_Unpack.nx_cases h with ⟨h1, h2⟩ | ⟨z, h1, h2⟩
 ·exact ⟨none, h1, fun _ => (Option.some.inj h2), fun z hz => absurd hz (by simp)⟩
 ·exact ⟨some z, h1, fun hz => absurd hz (by simp), fun z' hz => by injection hz with hz; exact hz ▸ h2⟩
/-- A post of which a panic hangs on two places alone. -/
def manifest_Unpack.PQ (Q : Exit → Act → World → Prop) (pa pb : Value) (ds : List Deferred) (G : World → Prop) : Exit → Act → World → Prop
 | .panic c, a, w => (a.tmps[2]?.getD undef = pa ∧ a.tmps[3]?.getD undef = pb ∧ a.defers = ds) ∧ c = [{ v := .iface 107 (.agg #[]), recovered := false }] ∧ G w
 | e, a, w => Q e a w
theorem manifest_Unpack.PQ_put {Q : Exit → Act → World → Prop} {pa pb : Value} {ds : List Deferred} {G : World → Prop} {N : Tmp} {v : Value} (h2 : N ≠ 2) (h3 : N ≠ 3) :
  ∀ c a w, manifest_Unpack.PQ Q pa pb ds G (.panic c) (a.put (some N) v) w → manifest_Unpack.PQ Q pa pb ds G (.panic c) a w := by
 rintro c a w ⟨⟨h1, h4, h5⟩, h6⟩
 refine ⟨⟨?_, ?_, ?_⟩, h6⟩
 ·rw [← h1]; simp [Act.put, Array.getElem?_setIfInBounds, h2]
 ·rw [← h4]; simp [Act.put, Array.getElem?_setIfInBounds, h3]
 ·rw [← h5]; rfl
theorem manifest_Unpack.PQ_wp {P : Program} {c : Code} {Q : Exit → Act → World → Prop} {a : Act} {w : World} (pa pb : Value) (ds : List Deferred) (G : World → Prop)
  (hq : ∀ a w, a.tmps[2]?.getD undef = pa → a.tmps[3]?.getD undef = pb → a.defers = ds → G w → Q (.panic [{ v := .iface 107 (.agg #[]), recovered := false }]) a w)
  (h : c.wp P (manifest_Unpack.PQ Q pa pb ds G) a w) : c.wp P Q a w := by
 refine Code.wp_mono (fun e a' w' hh => ?_) h
 cases e
 case panic c =>
  obtain ⟨⟨h2, h3, h5⟩, rfl, hg⟩ := hh
  exact hq a' w' h2 h3 h5 hg
 all_goals exact hh
theorem manifest_Unpack.PQ_normal {Q : Exit → Act → World → Prop} {pa pb : Value} {ds : List Deferred} {G : World → Prop} {a : Act} {w : World} (h : Q .normal a w) : manifest_Unpack.PQ Q pa pb ds G .normal a w := h
theorem manifest_Unpack.give_back (a b : Nat) (A : Option Addr) (c : Nat) (l : List S114) (v0 v1 v2 y : Int) (tmps : Array Value) (w W : World) (ha : W.heap[a]? = some (.cells #[.slice A l.length c, .int .i64 v0, .int .i64 v1, .int .i64 v2] 26 (0, 0))) (hb : W.heap[b]? = some (.cells #[.int .i64 y] 27 (0, 0))) (hab : a ≠ b) (hwa : w.heap.size ≤ a) (hwb : w.heap.size ≤ b) (hB : Below w.heap.size w W)
  (hR : Kd.R k114 114 W w.heap.size (fun k => k ≠ a ∧ k ≠ b) (.slice A l.length c) l)
  (t2 : (tmps[2]?.getD undef) = .pointer (some ⟨a, 0, none⟩)) (t3 : (tmps[3]?.getD undef) = .pointer (some ⟨b, 0, none⟩)) :
  Leaves Try.prog Try.f16 tmps (manifest_Unpack.Post w l v0 v1 v2 0) [{ target := .fn (.func 70) #[.pointer (some ⟨a, 0, none⟩), .pointer (some ⟨b, 0, none⟩)], args := #[] }] .returning (((((W.setCell ⟨a, 0, none⟩ (.slice A l.length c)).setCell ⟨a, 1, none⟩ (.int .i64 v0)).setCell ⟨a, 2, none⟩ (.int .i64 v1)).setCell ⟨a, 3, none⟩ (.int .i64 v2)).setCell ⟨b, 0, none⟩ (.int .i64 0)) := by
 have hu26 := Try.underlying26
 obtain ⟨W1, hW1⟩ : ∃ W1, W.setCell ⟨a, 0, none⟩ (.slice A l.length c) = W1 := ⟨_, rfl⟩
 have k0 : W1.heap[a]? = some (.cells #[.slice A l.length c, .int .i64 v0, .int .i64 v1, .int .i64 v2] 26 (0, 0)) := by rw [← hW1]; exact blk_put ha 0 _ rfl
 have b0 : W1.heap[b]? = some (.cells #[.int .i64 y] 27 (0, 0)) := by rw [← hW1]; exact blk_far hb (p := ⟨a, 0, none⟩) (Ne.symm hab) _
 have B0 : Below w.heap.size w W1 := by rw [← hW1]; exact hB.setCell (p := ⟨a, 0, none⟩) hwa _
 have R0 : Kd.R k114 114 W1 w.heap.size (fun k => k ≠ a ∧ k ≠ b) (.slice A l.length c) l := by rw [← hW1]; exact Kd.R_far (p := ⟨a, 0, none⟩) hR (fun _ hk => hk.1) _
 rw [hW1]
 clear hW1
 obtain ⟨W2, hW2⟩ : ∃ W2, W1.setCell ⟨a, 1, none⟩ (.int .i64 v0) = W2 := ⟨_, rfl⟩
 have k1 : W2.heap[a]? = some (.cells #[.slice A l.length c, .int .i64 v0, .int .i64 v1, .int .i64 v2] 26 (0, 0)) := by rw [← hW2]; exact blk_put k0 1 _ rfl
 have b1 : W2.heap[b]? = some (.cells #[.int .i64 y] 27 (0, 0)) := by rw [← hW2]; exact blk_far b0 (p := ⟨a, 1, none⟩) (Ne.symm hab) _
 have B1 : Below w.heap.size w W2 := by rw [← hW2]; exact B0.setCell (p := ⟨a, 1, none⟩) hwa _
 have R1 : Kd.R k114 114 W2 w.heap.size (fun k => k ≠ a ∧ k ≠ b) (.slice A l.length c) l := by rw [← hW2]; exact Kd.R_far (p := ⟨a, 1, none⟩) R0 (fun _ hk => hk.1) _
 rw [hW2]
 clear hW2
 obtain ⟨W3, hW3⟩ : ∃ W3, W2.setCell ⟨a, 2, none⟩ (.int .i64 v1) = W3 := ⟨_, rfl⟩
 have k2 : W3.heap[a]? = some (.cells #[.slice A l.length c, .int .i64 v0, .int .i64 v1, .int .i64 v2] 26 (0, 0)) := by rw [← hW3]; exact blk_put k1 2 _ rfl
 have b2 : W3.heap[b]? = some (.cells #[.int .i64 y] 27 (0, 0)) := by rw [← hW3]; exact blk_far b1 (p := ⟨a, 2, none⟩) (Ne.symm hab) _
 have B2 : Below w.heap.size w W3 := by rw [← hW3]; exact B1.setCell (p := ⟨a, 2, none⟩) hwa _
 have R2 : Kd.R k114 114 W3 w.heap.size (fun k => k ≠ a ∧ k ≠ b) (.slice A l.length c) l := by rw [← hW3]; exact Kd.R_far (p := ⟨a, 2, none⟩) R1 (fun _ hk => hk.1) _
 rw [hW3]
 clear hW3
 obtain ⟨W4, hW4⟩ : ∃ W4, W3.setCell ⟨a, 3, none⟩ (.int .i64 v2) = W4 := ⟨_, rfl⟩
 have k3 : W4.heap[a]? = some (.cells #[.slice A l.length c, .int .i64 v0, .int .i64 v1, .int .i64 v2] 26 (0, 0)) := by rw [← hW4]; exact blk_put k2 3 _ rfl
 have b3 : W4.heap[b]? = some (.cells #[.int .i64 y] 27 (0, 0)) := by rw [← hW4]; exact blk_far b2 (p := ⟨a, 3, none⟩) (Ne.symm hab) _
 have B3 : Below w.heap.size w W4 := by rw [← hW4]; exact B2.setCell (p := ⟨a, 3, none⟩) hwa _
 have R3 : Kd.R k114 114 W4 w.heap.size (fun k => k ≠ a ∧ k ≠ b) (.slice A l.length c) l := by rw [← hW4]; exact Kd.R_far (p := ⟨a, 3, none⟩) R2 (fun _ hk => hk.1) _
 rw [hW4]
 clear hW4
 obtain ⟨W5, hW5⟩ : ∃ W5, W4.setCell ⟨b, 0, none⟩ (.int .i64 0) = W5 := ⟨_, rfl⟩
 have k5 : W5.heap[a]? = some (.cells #[.slice A l.length c, .int .i64 v0, .int .i64 v1, .int .i64 v2] 26 (0, 0)) := by rw [← hW5]; exact blk_far k3 (p := ⟨b, 0, none⟩) hab _
 have b5 : W5.heap[b]? = some (.cells #[.int .i64 0] 27 (0, 0)) := by rw [← hW5]; exact blk_put b3 0 _ rfl
 have B5 : Below w.heap.size w W5 := by rw [← hW5]; exact B3.setCell (p := ⟨b, 0, none⟩) hwb _
 have R5 : Kd.R k114 114 W5 w.heap.size (fun k => k ≠ a ∧ k ≠ b) (.slice A l.length c) l := by rw [← hW5]; exact Kd.R_far (p := ⟨b, 0, none⟩) R3 (fun _ hk => hk.2) _
 rw [hW5]
 clear hW5
 refine leaves_cons (f := 70) (args := #[.pointer (some ⟨a, 0, none⟩), .pointer (some ⟨b, 0, none⟩)]) (by simp) (by simp [go_sem]) ?_
 refine (manifest_Unpack.catch_idle a b _).mono ?_
 rintro e u' w'' ⟨rfl, rfl, rfl⟩
 have e0 : w''.cell? ⟨a, 0, none⟩ = some (.slice A l.length c) := (blk_cell k5 0).trans rfl
 have e1 : w''.cell? ⟨a, 1, none⟩ = some (.int .i64 v0) := (blk_cell k5 1).trans rfl
 have e2 : w''.cell? ⟨a, 2, none⟩ = some (.int .i64 v1) := (blk_cell k5 2).trans rfl
 have e3 : w''.cell? ⟨a, 3, none⟩ = some (.int .i64 v2) := (blk_cell k5 3).trans rfl
 have e5 : w''.cell? ⟨b, 0, none⟩ = some (.int .i64 0) := (blk_cell b5 0).trans rfl
 refine ⟨.tuple #[.agg #[.slice A l.length c, .int .i64 v0, .int .i64 v1, .int .i64 v2], .int .i64 0], ?_, _, rfl, Kd.R_mono R5 (fun _ _ => trivial), B5⟩
 simp [results, Try.results16, go_sem, t2, t3, e0, e1, e2, e3, e5, hu26]
set_option maxHeartbeats 8000000 in
set_option maxRecDepth 100000 in
theorem manifest_Unpack.calls (k : Nat) (A0 : Option Addr) (c0 : Nat) (l0 : List Int) (r1 : List S114) (r2 r3 r4 r5 : Int) (w : World) (hr0 : Kd.C (Kd.int .u8) w A0 l0.length l0) (hc0 : l0.length ≤ c0) (h : manifest_Unpack.f k l0 = some (r1, r2, r3, r4, r5)) :
  Calls Try.prog 16 #[.slice A0 l0.length c0] w fun e w' => ∃ v0_ : Value, e = .returned (.tuple #[.agg #[v0_, .int .i64 r2, .int .i64 r3, .int .i64 r4], .int .i64 r5]) ∧ Kd.R k114 114 w' w.heap.size (fun _ => True) v0_ r1 ∧ Below w.heap.size w w' := by
 show Calls _ _ _ _ (manifest_Unpack.Post w r1 r2 r3 r4 r5)
 have hu26 := Try.underlying26
 have hu114 := Try.underlying114
 have hmf : ∀ (fn : Fn) (first cap : Array Value) (w : World), (Instr.makeFunc fn first cap).run Try.prog w = .ok (.func fn first cap) w := fun _ _ _ _ => rfl
 have CR := Aside0.mk hr0
 have HC := Aside0.mk hc0
 have H := Aside0.mk h
 clear hr0 hc0 h
 go_enter_defers Try.func16, Try.ntmps16
 go_upto_region 2 with fail
 obtain ⟨W, hW⟩ : ∃ W, ((w.alloc (.cells #[.slice none 0 0, .int .i64 0, .int .i64 0, .int .i64 0] 26)).alloc (.cells #[.int .i64 0] 27)) = W := ⟨_, rfl⟩
 have HB := Aside0.mk (show Below w.heap.size w W by rw [← hW]; exact below_alloc (below_alloc (Below.refl _ _) _) _)
 have BA := Aside0.mk (show W.heap[w.heap.size]? = some (.cells #[.slice none 0 0, .int .i64 0, .int .i64 0, .int .i64 0] 26 (0, 0)) by rw [← hW]; exact blk_alloc (blk_new w _) _)
 have BB := Aside0.mk (show W.heap[w.heap.size + 1]? = some (.cells #[.int .i64 0] 27 (0, 0)) by rw [← hW]; have z := blk_new (w.alloc (.cells #[.slice none 0 0, .int .i64 0, .int .i64 0, .int .i64 0] 26)) (.cells #[.int .i64 0] 27); rw [World.size_alloc] at z; exact z)
 obtain ⟨a, ea⟩ : ∃ a, a = w.heap.size := ⟨_, rfl⟩
 obtain ⟨b, eb⟩ : ∃ b, b = w.heap.size + 1 := ⟨_, rfl⟩
 rw [hW, ← eb, ← ea]
 rw [← ea] at BA
 rw [← eb] at BB
 have GA := Aside0.mk (show w.heap.size ≤ a by omega)
 have GB := Aside0.mk (show w.heap.size ≤ b by omega)
 have AB := Aside0.mk (show a ≠ b by omega)
 clear ea eb hW
 have H0 := H.out
 unfold manifest_Unpack.f at H0
 obtain ⟨p, hp, H1⟩ := Option.bind_eq_some_iff.mp H0
 have HP := Aside0.mk hp
 clear hp H0 H
 by_cases hpt : p = true
 case neg =>
  rw [if_neg hpt] at H1
  obtain rfl : p = false := by simpa using hpt
  go_wp2_with (first
   | ((with_reducible refine gate_dst (N := 10) rfl ?_); refine XT.lit_bytes rfl (N := 10) rfl rfl 22 5 rfl Try.underlying22 Try.underlying5 ([76, 89, 83, 77] : List Int) ?hr (fun _ => rfl) ?_; (case hr => first | (go_simp; done) | (go_simp; rfl)); intro v10 w1 ht_ hb_; obtain ⟨gl, fr, rfl, _, _, hbl⟩ := ht_; have CL := Aside0.mk (C_of_block .u8 [76, 89, 83, 77] (by decide) hbl); have n0_ := Aside0.mk (blk_below BA.out hb_); have n1_ := Aside0.mk (blk_below BB.out hb_); have n2_ := Aside0.mk (below_step HB.out hb_); clear BA BB HB hb_ hbl; have BA := n0_; have BB := n1_; have HB := n2_; clear n0_ n1_ n2_)
   | (go_at_call 71; (refine (bytes_HasPrefix.calls A0 c0 l0 _ 4 [76, 89, 83, 77] _ _ ?s1 ?s2 ?s3 ?s4 HP.out).mono ?_); (case s1 => exact Kd.C_below CR.out HB.out); (case s2 => exact HC.out); (case s3 => exact CL.out); (case s4 => decide); rintro e w2 ⟨rfl, hd_⟩; have hb_ := hd_.below; have n0_ := Aside0.mk (blk_below BA.out hb_); have n1_ := Aside0.mk (blk_below BB.out hb_); have n2_ := Aside0.mk (below_step HB.out hb_); clear BA BB HB CL hb_ hd_; have BA := n0_; have BB := n1_; have HB := n2_; clear n0_ n1_ n2_))
  have h2 := H1
  simp only [Option.some.injEq, Prod.mk.injEq] at h2
  obtain ⟨rfl, rfl, rfl, rfl, rfl⟩ := h2
  exact manifest_Unpack.give_up a b _ _ _ w _ rfl BA.out BB.out AB.out GA.out GB.out HB.out rfl rfl
 case pos =>
 subst hpt
 rw [if_pos rfl] at H1
 by_cases h4 : 4 ≤ l0.length
 case neg => rw [if_neg h4] at H1; cases H1
 rw [if_pos h4] at H1
 go_upto_region 4 with (first
  | ((with_reducible refine gate_dst (N := 10) rfl ?_); refine XT.lit_bytes rfl (N := 10) rfl rfl 22 5 rfl Try.underlying22 Try.underlying5 ([76, 89, 83, 77] : List Int) ?hr (fun _ => rfl) ?_; (case hr => first | (go_simp; done) | (go_simp; rfl)); intro v10 w1 ht_ hb_; obtain ⟨gl, fr, rfl, _, _, hbl⟩ := ht_; have CL := Aside0.mk (C_of_block .u8 [76, 89, 83, 77] (by decide) hbl); have n0_ := Aside0.mk (blk_below BA.out hb_); have n1_ := Aside0.mk (blk_below BB.out hb_); have n2_ := Aside0.mk (below_step HB.out hb_); clear BA BB HB hb_ hbl; have BA := n0_; have BB := n1_; have HB := n2_; clear n0_ n1_ n2_)
  | (go_at_call 71; (refine (bytes_HasPrefix.calls A0 c0 l0 _ 4 [76, 89, 83, 77] _ _ ?s1 ?s2 ?s3 ?s4 HP.out).mono ?_); (case s1 => exact Kd.C_below CR.out HB.out); (case s2 => exact HC.out); (case s3 => exact CL.out); (case s4 => decide); rintro e w2 ⟨rfl, hd_⟩; have hb_ := hd_.below; have n0_ := Aside0.mk (blk_below BA.out hb_); have n1_ := Aside0.mk (blk_below BB.out hb_); have n2_ := Aside0.mk (below_step HB.out hb_); clear BA BB HB CL hb_ hd_; have BA := n0_; have BB := n1_; have HB := n2_; clear n0_ n1_ n2_))
 obtain ⟨i0, hi0, _, hsz0, _⟩ := info_parts info5
 have hcut := cut_from (P := Try.prog) 22 5 .i64 Try.underlying22 hi0 1 hsz0 A0 l0.length c0 4 (by decide) (by omega)
 have hC2 := Kd.C_drop (m := 4) CR.out (by omega) HC.out
 rw [show (Kd.int .u8).sz = 1 from rfl] at hC2
 rw [show (4 : Int).toNat = 4 from rfl] at hcut
 obtain ⟨A2, hA2⟩ : ∃ A2, (if c0 = 4 then A0 else A0.map (·.add (4 * 1))) = A2 := ⟨_, rfl⟩
 rw [hA2] at hcut hC2
 have C2 := Aside0.mk hC2
 have hln : (l0.drop 4).length = l0.length - 4 := List.length_drop
 have HLN := Aside0.mk hln
 have H4 := Aside0.mk h4
 clear hC2 hA2 hi0 hsz0 hln
 go_upto_region 5 with (first
  | ((with_reducible refine gate_dst (N := 19) rfl ?_); refine box_event ?hg (N := 19) ?hd (cs := #[.slice A2 (l0.length - 4) (c0 - 4)]) (t := 112) ?hr ?_; (case hd => rfl); (case hg => rfl); (case hr => first | (go_simp; done) | (go_simp; rfl)); intro gr hgr w4 bk_ hb_; have NA := Aside0.mk (show a ≠ gr by have := blk_lt BA.out; omega); have NB := Aside0.mk (show b ≠ gr by have := blk_lt BB.out; omega); have RD := Aside0.mk (manifest_Unpack.RD.mk (w0 := w) (W := w4) (g := gr) (l := l0.drop 4) ⟨A2, c0 - 4, (by rw [HLN.out]; exact bk_), C2.out, (by have := HLN.out; have := HC.out; omega)⟩ (by rw [hgr]; exact below_size HB.out)); have n0_ := Aside0.mk (blk_below BA.out hb_); have n1_ := Aside0.mk (blk_below BB.out hb_); have n2_ := Aside0.mk (below_step HB.out hb_); clear BA BB HB hb_ bk_ hgr; have BA := n0_; have BB := n1_; have HB := n2_; clear n0_ n1_ n2_))
 clear hcut h4 C2
 rcases manifest_Unpack.nx_cases H1 with ⟨hy0, H2⟩ | ⟨⟨v0, s0⟩, hy0, H2⟩
 case inl =>
  have Y0 := Aside0.mk hy0
  clear hy0 H1
  have H1 := H2
  clear H2
  go_wp2_with (first
   | (go_at_call 72; (with_reducible refine (manifest_Unpack.number k gr (l0.drop 4) w _ HB.out RD.out _ Y0.out).mono ?_); intro e wq hg_; obtain ⟨rfl, hb_, hk_⟩ := hg_; have n0_ := Aside0.mk (blk_kept BA.out hk_ (fun h => NA.out h)); have n1_ := Aside0.mk (blk_kept BB.out hk_ (fun h => NB.out h)); clear BA BB HB RD; have BA := n0_; have BB := n1_; have HB := Aside0.mk hb_; clear n0_ n1_ hb_ hk_))
  have h2 := H1
  simp only [Option.some.injEq, Prod.mk.injEq] at h2
  obtain ⟨rfl, rfl, rfl, rfl, rfl⟩ := h2
  exact manifest_Unpack.give_up a b _ _ _ w _ rfl BA.out BB.out AB.out GA.out GB.out HB.out rfl rfl

 case inr =>
 have Y0 := Aside0.mk hy0
 clear hy0 H1
 have H1 := H2
 clear H2
 try dsimp only at H1
 rcases manifest_Unpack.nx_cases H1 with ⟨hy1, H2⟩ | ⟨⟨v1, s1⟩, hy1, H2⟩
 case inl =>
  have Y1 := Aside0.mk hy1
  clear hy1 H1
  have H1 := H2
  clear H2
  go_wp2_with (first
   | (go_at_call 72; (with_reducible refine (manifest_Unpack.number k gr (l0.drop 4) w _ HB.out RD.out _ Y0.out).mono ?_); intro e wq hg_; obtain ⟨rfl, hd_, hb_, hk_⟩ := hg_; have n0_ := Aside0.mk (blk_kept BA.out hk_ (fun h => NA.out h)); have n1_ := Aside0.mk (blk_kept BB.out hk_ (fun h => NB.out h)); clear BA BB HB RD; have BA := n0_; have BB := n1_; have HB := Aside0.mk hb_; clear n0_ n1_ hb_ hk_; have RD := Aside0.mk hd_; clear hd_)
   | (go_at_call 72; (with_reducible refine (manifest_Unpack.number k gr (s0) w _ HB.out RD.out _ Y1.out).mono ?_); intro e wq hg_; obtain ⟨rfl, hb_, hk_⟩ := hg_; have n0_ := Aside0.mk (blk_kept BA.out hk_ (fun h => NA.out h)); have n1_ := Aside0.mk (blk_kept BB.out hk_ (fun h => NB.out h)); clear BA BB HB RD; have BA := n0_; have BB := n1_; have HB := Aside0.mk hb_; clear n0_ n1_ hb_ hk_))
  have h2 := H1
  simp only [Option.some.injEq, Prod.mk.injEq] at h2
  obtain ⟨rfl, rfl, rfl, rfl, rfl⟩ := h2
  exact manifest_Unpack.give_up a b _ _ _ w _ rfl BA.out BB.out AB.out GA.out GB.out HB.out rfl rfl

 case inr =>
 have Y1 := Aside0.mk hy1
 clear hy1 H1
 have H1 := H2
 clear H2
 try dsimp only at H1
 rcases manifest_Unpack.nx_cases H1 with ⟨hy2, H2⟩ | ⟨⟨v2, s2⟩, hy2, H2⟩
 case inl =>
  have Y2 := Aside0.mk hy2
  clear hy2 H1
  have H1 := H2
  clear H2
  go_wp2_with (first
   | (go_at_call 72; (with_reducible refine (manifest_Unpack.number k gr (l0.drop 4) w _ HB.out RD.out _ Y0.out).mono ?_); intro e wq hg_; obtain ⟨rfl, hd_, hb_, hk_⟩ := hg_; have n0_ := Aside0.mk (blk_kept BA.out hk_ (fun h => NA.out h)); have n1_ := Aside0.mk (blk_kept BB.out hk_ (fun h => NB.out h)); clear BA BB HB RD; have BA := n0_; have BB := n1_; have HB := Aside0.mk hb_; clear n0_ n1_ hb_ hk_; have RD := Aside0.mk hd_; clear hd_)
   | (go_at_call 72; (with_reducible refine (manifest_Unpack.number k gr (s0) w _ HB.out RD.out _ Y1.out).mono ?_); intro e wq hg_; obtain ⟨rfl, hd_, hb_, hk_⟩ := hg_; have n0_ := Aside0.mk (blk_kept BA.out hk_ (fun h => NA.out h)); have n1_ := Aside0.mk (blk_kept BB.out hk_ (fun h => NB.out h)); clear BA BB HB RD; have BA := n0_; have BB := n1_; have HB := Aside0.mk hb_; clear n0_ n1_ hb_ hk_; have RD := Aside0.mk hd_; clear hd_)
   | (go_at_call 73; (with_reducible refine (manifest_Unpack.signed k gr (s1) w _ HB.out RD.out _ Y2.out).mono ?_); intro e wq hg_; obtain ⟨rfl, hb_, hk_⟩ := hg_; have n0_ := Aside0.mk (blk_kept BA.out hk_ (fun h => NA.out h)); have n1_ := Aside0.mk (blk_kept BB.out hk_ (fun h => NB.out h)); clear BA BB HB RD; have BA := n0_; have BB := n1_; have HB := Aside0.mk hb_; clear n0_ n1_ hb_ hk_))
  have h2 := H1
  simp only [Option.some.injEq, Prod.mk.injEq] at h2
  obtain ⟨rfl, rfl, rfl, rfl, rfl⟩ := h2
  exact manifest_Unpack.give_up a b _ _ _ w _ rfl BA.out BB.out AB.out GA.out GB.out HB.out rfl rfl

 case inr =>
 have Y2 := Aside0.mk hy2
 clear hy2 H1
 have H1 := H2
 clear H2
 try dsimp only at H1
 go_upto_region 6 with (first
  | (go_at_call 72; (with_reducible refine (manifest_Unpack.number k gr (l0.drop 4) w _ HB.out RD.out _ Y0.out).mono ?_); intro e wq hg_; obtain ⟨rfl, hd_, hb_, hk_⟩ := hg_; have n0_ := Aside0.mk (blk_kept BA.out hk_ (fun h => NA.out h)); have n1_ := Aside0.mk (blk_kept BB.out hk_ (fun h => NB.out h)); clear BA BB HB RD; have BA := n0_; have BB := n1_; have HB := Aside0.mk hb_; clear n0_ n1_ hb_ hk_; have RD := Aside0.mk hd_; clear hd_)
  | (go_at_call 72; (with_reducible refine (manifest_Unpack.number k gr (s0) w _ HB.out RD.out _ Y1.out).mono ?_); intro e wq hg_; obtain ⟨rfl, hd_, hb_, hk_⟩ := hg_; have n0_ := Aside0.mk (blk_kept BA.out hk_ (fun h => NA.out h)); have n1_ := Aside0.mk (blk_kept BB.out hk_ (fun h => NB.out h)); clear BA BB HB RD; have BA := n0_; have BB := n1_; have HB := Aside0.mk hb_; clear n0_ n1_ hb_ hk_; have RD := Aside0.mk hd_; clear hd_)
  | (go_at_call 73; (with_reducible refine (manifest_Unpack.signed k gr (s1) w _ HB.out RD.out _ Y2.out).mono ?_); intro e wq hg_; obtain ⟨rfl, hd_, hb_, hk_⟩ := hg_; have n0_ := Aside0.mk (blk_kept BA.out hk_ (fun h => NA.out h)); have n1_ := Aside0.mk (blk_kept BB.out hk_ (fun h => NB.out h)); clear BA BB HB RD; have BA := n0_; have BB := n1_; have HB := Aside0.mk hb_; clear n0_ n1_ hb_ hk_; have RD := Aside0.mk hd_; clear hd_; have z0 : wq.cell? ⟨a, 0, none⟩ = some (.slice none 0 0) := (blk_cell BA.out 0).trans rfl; have zf0 := blk_frozen BA.out 0; have z1 : wq.cell? ⟨a, 1, none⟩ = some (.int .i64 0) := (blk_cell BA.out 1).trans rfl; have zf1 := blk_frozen BA.out 1; have z2 : wq.cell? ⟨a, 2, none⟩ = some (.int .i64 0) := (blk_cell BA.out 2).trans rfl; have zf2 := blk_frozen BA.out 2; have z3 : wq.cell? ⟨a, 3, none⟩ = some (.int .i64 0) := (blk_cell BA.out 3).trans rfl; have zf3 := blk_frozen BA.out 3))
 refine XH.cwp_world ?_
 intro w6 hw6
 have ba6 : w6.heap[a]? = some (.cells #[.slice none 0 0, .int .i64 v0, .int .i64 v1, .int .i64 v2] 26 (0, 0)) := by rw [hw6]; exact blk_put (blk_put (blk_put (blk_put BA.out 0 _ rfl) 1 _ rfl) 2 _ rfl) 3 _ rfl
 have bb6 : w6.heap[b]? = some (.cells #[.int .i64 0] 27 (0, 0)) := by rw [hw6]; exact blk_far (blk_far (blk_far (blk_far BB.out (p := ⟨a, 0, none⟩) (Ne.symm AB.out) _) (p := ⟨a, 1, none⟩) (Ne.symm AB.out) _) (p := ⟨a, 2, none⟩) (Ne.symm AB.out) _) (p := ⟨a, 3, none⟩) (Ne.symm AB.out) _
 have hb6 : Below w.heap.size w w6 := by rw [hw6]; exact below_set (below_set (below_set (below_set HB.out GA.out) GA.out) GA.out) GA.out
 have rd6 : manifest_Unpack.RD w w6 gr s2 := by
  obtain ⟨⟨A_, c_, hg_, h2_⟩, h3_⟩ := RD.out
  exact ⟨⟨A_, c_, by rw [hw6]; exact blk_far (blk_far (blk_far (blk_far hg_ (p := ⟨a, 0, none⟩) (Ne.symm NA.out) _) (p := ⟨a, 1, none⟩) (Ne.symm NA.out) _) (p := ⟨a, 2, none⟩) (Ne.symm NA.out) _) (p := ⟨a, 3, none⟩) (Ne.symm NA.out) _, h2_⟩, h3_⟩
 clear BA BB HB RD hw6 z0 z1 z2 z3 zf0 zf1 zf2 zf3
 have BA := Aside0.mk ba6
 have BB := Aside0.mk bb6
 have HB := Aside0.mk hb6
 have RD := Aside0.mk rd6
 clear ba6 bb6 hb6 rd6
 rcases manifest_Unpack.nx_cases H1 with ⟨hy3, H2⟩ | ⟨⟨v3, s3⟩, hy3, H2⟩
 case inl =>
  have Y3 := Aside0.mk hy3
  clear hy3 H1
  have H1 := H2
  clear H2
  go_wp2_with (first
   | (go_at_call 72; (with_reducible refine (manifest_Unpack.number k gr (s2) w _ HB.out RD.out _ Y3.out).mono ?_); intro e wq hg_; obtain ⟨rfl, hb_, hk_⟩ := hg_; have n0_ := Aside0.mk (blk_kept BA.out hk_ (fun h => NA.out h)); have n1_ := Aside0.mk (blk_kept BB.out hk_ (fun h => NB.out h)); clear BA BB HB RD; have BA := n0_; have BB := n1_; have HB := Aside0.mk hb_; clear n0_ n1_ hb_ hk_))
  have h2 := H1
  simp only [Option.some.injEq, Prod.mk.injEq] at h2
  obtain ⟨rfl, rfl, rfl, rfl, rfl⟩ := h2
  exact manifest_Unpack.give_up a b _ _ _ w _ rfl BA.out BB.out AB.out GA.out GB.out HB.out rfl rfl

 case inr =>
 have Y3 := Aside0.mk hy3
 clear hy3 H1
 have H1 := H2
 clear H2
 try dsimp only at H1
 by_cases hr : v3 < 0 ∨ v3 > 200
 case pos =>
  rw [if_pos hr] at H1
  rcases (show v3 < 0 ∨ 0 ≤ v3 by omega) with hv | hv
  ·have d1 : decide (v3 < 0) = true := decide_eq_true hv
   clear hr hv
   go_wp2_with (first
    | (go_at_call 72; (with_reducible refine (manifest_Unpack.number k gr (s2) w _ HB.out RD.out _ Y3.out).mono ?_); intro e wq hg_; obtain ⟨rfl, hd_, hb_, hk_⟩ := hg_; have n0_ := Aside0.mk (blk_kept BA.out hk_ (fun h => NA.out h)); have n1_ := Aside0.mk (blk_kept BB.out hk_ (fun h => NB.out h)); clear BA BB HB RD; have BA := n0_; have BB := n1_; have HB := Aside0.mk hb_; clear n0_ n1_ hb_ hk_; have RD := Aside0.mk hd_; clear hd_))
   have h2 := H1
   simp only [Option.some.injEq, Prod.mk.injEq] at h2
   obtain ⟨rfl, rfl, rfl, rfl, rfl⟩ := h2
   exact manifest_Unpack.give_up a b _ _ _ w _ rfl BA.out BB.out AB.out GA.out GB.out HB.out rfl rfl

  ·have d1 : decide (v3 < 0) = false := decide_eq_false (by omega)
   have d2 : decide (200 < v3) = true := decide_eq_true (by omega)
   clear hr hv
   go_wp2_with (first
    | (go_at_call 72; (with_reducible refine (manifest_Unpack.number k gr (s2) w _ HB.out RD.out _ Y3.out).mono ?_); intro e wq hg_; obtain ⟨rfl, hd_, hb_, hk_⟩ := hg_; have n0_ := Aside0.mk (blk_kept BA.out hk_ (fun h => NA.out h)); have n1_ := Aside0.mk (blk_kept BB.out hk_ (fun h => NB.out h)); clear BA BB HB RD; have BA := n0_; have BB := n1_; have HB := Aside0.mk hb_; clear n0_ n1_ hb_ hk_; have RD := Aside0.mk hd_; clear hd_))
   have h2 := H1
   simp only [Option.some.injEq, Prod.mk.injEq] at h2
   obtain ⟨rfl, rfl, rfl, rfl, rfl⟩ := h2
   exact manifest_Unpack.give_up a b _ _ _ w _ rfl BA.out BB.out AB.out GA.out GB.out HB.out rfl rfl

 case neg =>
 rw [if_neg hr] at H1
 have d1 : decide (v3 < 0) = false := decide_eq_false (by omega)
 have d2 : decide (200 < v3) = false := decide_eq_false (by omega)
 have HV := Aside0.mk (show 0 ≤ v3 ∧ v3 ≤ 200 by omega)
 clear hr
 go_wp2_with (first
  | (go_at_call 72; (with_reducible refine (manifest_Unpack.number k gr (s2) w _ HB.out RD.out _ Y3.out).mono ?_); intro e wq hg_; obtain ⟨rfl, hd_, hb_, hk_⟩ := hg_; have n0_ := Aside0.mk (blk_kept BA.out hk_ (fun h => NA.out h)); have n1_ := Aside0.mk (blk_kept BB.out hk_ (fun h => NB.out h)); clear BA BB HB RD; have BA := n0_; have BB := n1_; have HB := Aside0.mk hb_; clear n0_ n1_ hb_ hk_; have RD := Aside0.mk hd_; clear hd_))
 have H1c := H1
 obtain ⟨y0, hy0, hyn, hys⟩ := manifest_Unpack.nx_split H1c
 have HYN := Aside0.mk hyn
 have HYS := Aside0.mk hys
 clear H1 H1c hyn hys
 have HLP := Aside0.mk hy0
 clear hy0
 have hvN : ((v3.toNat : Nat) : Int) = v3 := Int.toNat_of_nonneg HV.out.1
 obtain ⟨N, hN⟩ : ∃ N : Nat, N = v3.toNat := ⟨_, rfl⟩
 rw [← hN] at HLP hvN
 have HN := Aside0.mk (show N ≤ 200 by have := HV.out; omega)
 obtain rfl : v3 = (N : Int) := hvN.symm
 clear hN hvN d1 d2 HV
 go_loopg [38] N (fun kq v38 w' => ∃ (i : Nat) (l : List Int) (acc : List S114) (v : Value), kq + i = N ∧ v38 = .int .i64 i ∧ Aside0 (manifest_Unpack.lp k kq l acc = some y0) ∧ Aside0 (w'.heap[a]? = some (.cells #[v, .int .i64 v0, .int .i64 v1, .int .i64 v2] 26 (0, 0))) ∧ Aside0 (Kd.R k114 114 w' w.heap.size (fun k => k ≠ a ∧ k ≠ b ∧ k ≠ gr) v acc) ∧ Aside0 (acc.length = i) ∧ Aside0 (w'.heap[b]? = some (.cells #[.int .i64 0] 27 (0, 0))) ∧ Aside0 (manifest_Unpack.RD w w' gr l) ∧ Aside0 (Below w.heap.size w w'))
 case atStart => exact ⟨0, s3, [], .slice none 0 0, by omega, rfl, HLP, BA, ⟨Kd.R_nil _ _ _ _ _⟩, ⟨rfl⟩, BB, RD, HB⟩
 case round =>
  clear HLP BA BB RD HB
  obtain ⟨i, l, acc, v, hk, rfl, HLP, BA, AR, HAL, BB, RD, HB⟩ := hrel
  by_cases hi : i < N
  ·obtain ⟨k1, rfl⟩ : ∃ k1, gk = k1 + 1 := ⟨gk - 1, by omega⟩
   have hib : decide ((i : Int) < (N : Int)) = true := decide_eq_true (by omega)
   have hL := HLP.out
   unfold manifest_Unpack.lp at hL
   obtain ⟨u0, hu0, e0, f0⟩ := manifest_Unpack.nx_split hL
   have U0 := Aside0.mk hu0
   have E0 := Aside0.mk e0
   have F0 := Aside0.mk f0
   have HK := Aside0.mk hk
   have HI := Aside0.mk hi
   have hi1 : (i : Int) < (N : Int) := by omega
   clear hL HLP hu0 e0 f0 hk hi
   go_upto_region 11 with fail
   obtain ⟨Av, cv, ev⟩ := Kd.R_slice AR.out
   subst ev
   refine manifest_Unpack.PQ_wp (.pointer (some ⟨a, 0, none⟩)) (.pointer (some ⟨b, 0, none⟩)) [{ target := .fn (.func 70) #[.pointer (some ⟨a, 0, none⟩), .pointer (some ⟨b, 0, none⟩)], args := #[] }] (fun W' => y0 = none ∧ W'.heap[a]? = some (.cells #[.slice Av acc.length cv, .int .i64 v0, .int .i64 v1, .int .i64 v2] 26 (0, 0)) ∧ W'.heap[b]? = some (.cells #[.int .i64 0] 27 (0, 0)) ∧ Below w.heap.size w W') ?hq ?hw
   case hq =>
    rintro a' w' h2 h3 h5 ⟨hy, g1, g2, g3⟩
    have h2' := HYN.out hy
    simp only [Prod.mk.injEq] at h2'
    obtain ⟨rfl, rfl, rfl, rfl, rfl⟩ := h2'
    have hg := manifest_Unpack.give_up a b _ _ a'.tmps w w' rfl g1 g2 AB.out GA.out GB.out g3 h2 h3
    rw [← h5] at hg
    exact hg
   have BA2 := Aside0.mk (blk_drew BA.out)
   have BB2 := Aside0.mk (blk_drew BB.out)
   have AR2 := Aside0.mk (Kd.R_drew AR.out)
   have RD2 := Aside0.mk (RD.out.kept (Kept.refl wr (fun _ => False)).drew (fun h => h))
   have HB2 := Aside0.mk (below_drew1 HB.out)
   clear BA BB AR RD HB
   refine start_ (n := 15) (S := fun w' => w'.cell? ⟨a, 0, none⟩ = some (.slice Av acc.length cv)) (ds := [14]) #[false, false, false, false, false, false, false, false, false, false, false, false, false, false, false] (by kernel_rfl) rfl rfl ((blk_cell BA2.out 0).trans rfl) (fun hHeld => ?_)
   generalize wr.drew = w9 at BA2 BB2 AR2 RD2 HB2 hHeld ⊢
   have BA := BA2
   have BB := BB2
   have AR := AR2
   have RD := RD2
   have HB := HB2
   clear BA2 BB2 AR2 RD2 HB2
   refine pure_ (i := 0) (N := (some 40)) (v := ?_) (a' := ?_) #[true, false, false, false, false, false, false, false, false, false, false, false, false, false, false] rfl rfl (by kernel_rfl) (manifest_Unpack.PQ_put (by decide) (by decide)) (Or.inl ⟨by rfl, ?_⟩) ?_ ?_
   rotate_left
   ·intro w'
    go_simp
    with_reducible rfl
   rotate_left
   ·simp only [Act.put, List.setIfInBounds_toArray, List.set_cons_zero, List.set_cons_succ, i64_w, i32_w]
    rfl
   refine take_ (i := 1) (N := (some 41)) (v := ?_) (a' := ?_) #[true, true, false, false, false, false, false, false, false, false, false, false, false, false, false] rfl rfl (by kernel_rfl) (manifest_Unpack.PQ_put (by decide) (by decide)) (Or.inl ⟨by rfl, ?_⟩) hHeld ?_ ?_
   rotate_left
   ·rintro w' s0
    go_simp
    with_reducible rfl
   rotate_left
   ·simp only [Act.put, List.setIfInBounds_toArray, List.set_cons_zero, List.set_cons_succ, i64_w, i32_w]
    rfl
   refine pure_ (i := 2) (N := (some 42)) (v := ?_) (a' := ?_) #[true, true, true, false, false, false, false, false, false, false, false, false, false, false, false] rfl rfl (by kernel_rfl) (manifest_Unpack.PQ_put (by decide) (by decide)) (Or.inl ⟨by rfl, ?_⟩) ?_ ?_
   rotate_left
   ·intro w'
    go_simp
    with_reducible rfl
   rotate_left
   ·simp only [Act.put, List.setIfInBounds_toArray, List.set_cons_zero, List.set_cons_succ, i64_w, i32_w]
    rfl
   refine pure_ (i := 4) (N := (some 44)) (v := ?_) (a' := ?_) #[true, true, true, false, true, false, false, false, false, false, false, false, false, false, false] rfl rfl (by kernel_rfl) (manifest_Unpack.PQ_put (by decide) (by decide)) (Or.inl ⟨by rfl, ?_⟩) ?_ ?_
   rotate_left
   ·intro w'
    go_simp
    with_reducible rfl
   rotate_left
   ·simp only [Act.put, List.setIfInBounds_toArray, List.set_cons_zero, List.set_cons_succ, i64_w, i32_w]
    rfl
   refine pure_ (i := 6) (N := (some 46)) (v := ?_) (a' := ?_) #[true, true, true, false, true, false, true, false, false, false, false, false, false, false, false] rfl rfl (by kernel_rfl) (manifest_Unpack.PQ_put (by decide) (by decide)) (Or.inl ⟨by rfl, ?_⟩) ?_ ?_
   rotate_left
   ·intro w'
    go_simp
    with_reducible rfl
   rotate_left
   ·simp only [Act.put, List.setIfInBounds_toArray, List.set_cons_zero, List.set_cons_succ, i64_w, i32_w]
    rfl
   refine pure_ (i := 8) (N := (some 48)) (v := ?_) (a' := ?_) #[true, true, true, false, true, false, true, false, true, false, false, false, false, false, false] rfl rfl (by kernel_rfl) (manifest_Unpack.PQ_put (by decide) (by decide)) (Or.inl ⟨by rfl, ?_⟩) ?_ ?_
   rotate_left
   ·intro w'
    go_simp
    with_reducible rfl
   rotate_left
   ·simp only [Act.put, List.setIfInBounds_toArray, List.set_cons_zero, List.set_cons_succ, i64_w, i32_w]
    rfl
   refine one_ (i := 3) (N := (some 43)) #[true, true, true, true, true, false, true, false, true, false, false, false, false, false, false] rfl rfl (by kernel_rfl) (by decide) (fun K hK => ?_)
   refine manifest_Unpack.goesP Try.func72 (by kernel_rfl) rfl #[.pointer (some ⟨gr, 0, none⟩)] (by rfl) rfl rfl (by first | (simp; done) | ((try simp only [List.map_toArray, List.map_cons, List.map_nil]); first | done | rfl)) ?_
   with_reducible refine (manifest_Unpack.number k gr l w _ HB.out RD.out _ U0.out).mono ?_
   intro e wq0 hg_
   cases u0 with
   | none =>
    obtain ⟨rfl, hb_, hk_⟩ := hg_
    exact .inr ⟨_, rfl, ⟨rfl, rfl, rfl⟩, rfl, (E0.out rfl).symm, blk_kept BA.out hk_ (fun h => NA.out h), blk_kept BB.out hk_ (fun h => NB.out h), hb_⟩
   | some x0_ =>
   obtain ⟨p0, q0⟩ := x0_
   obtain ⟨rfl, hd_, hb_, hk_⟩ := hg_
   refine .inl ⟨_, rfl, ?_⟩
   have ba_ := Aside0.mk (blk_kept BA.out hk_ (fun h => NA.out h))
   have bb_ := Aside0.mk (blk_kept BB.out hk_ (fun h => NB.out h))
   have ar_ := Aside0.mk (Kd.R_kept AR.out hk_ (fun k hk h => hk.2.2 h))
   clear BA BB AR RD HB
   have BA := ba_
   have BB := bb_
   have AR := ar_
   have RD := Aside0.mk hd_
   have HB := Aside0.mk hb_
   clear ba_ bb_ ar_ hd_ hb_ hk_
   obtain ⟨u1, hu1, e1, f1⟩ := manifest_Unpack.nx_split (F0.out _ rfl)
   have U1 := Aside0.mk hu1
   have E1 := Aside0.mk e1
   have F1 := Aside0.mk f1
   clear hu1 e1 f1 U0 E0 F0
   refine hK.out _ _ ((blk_cell BA.out 0).trans rfl) (fun hHeld => ?_)
   clear hK K
   refine norm_ (a' := ?_) ?_ ?_
   rotate_left
   ·show Act.put _ (some 43) _ = _
    simp only [Act.put, List.setIfInBounds_toArray, List.set_cons_zero, List.set_cons_succ, i64_w, i32_w]
    rfl
   refine one_ (i := 5) (N := (some 45)) #[true, true, true, true, true, true, true, false, true, false, false, false, false, false, false] rfl rfl (by kernel_rfl) (by decide) (fun K hK => ?_)
   refine manifest_Unpack.goesP Try.func72 (by kernel_rfl) rfl #[.pointer (some ⟨gr, 0, none⟩)] (by rfl) rfl rfl (by first | (simp; done) | ((try simp only [List.map_toArray, List.map_cons, List.map_nil]); first | done | rfl)) ?_
   with_reducible refine (manifest_Unpack.number k gr q0 w _ HB.out RD.out _ U1.out).mono ?_
   intro e wq1 hg_
   cases u1 with
   | none =>
    obtain ⟨rfl, hb_, hk_⟩ := hg_
    exact .inr ⟨_, rfl, ⟨rfl, rfl, rfl⟩, rfl, (E1.out rfl).symm, blk_kept BA.out hk_ (fun h => NA.out h), blk_kept BB.out hk_ (fun h => NB.out h), hb_⟩
   | some x1_ =>
   obtain ⟨p1, q1⟩ := x1_
   obtain ⟨rfl, hd_, hb_, hk_⟩ := hg_
   refine .inl ⟨_, rfl, ?_⟩
   have ba_ := Aside0.mk (blk_kept BA.out hk_ (fun h => NA.out h))
   have bb_ := Aside0.mk (blk_kept BB.out hk_ (fun h => NB.out h))
   have ar_ := Aside0.mk (Kd.R_kept AR.out hk_ (fun k hk h => hk.2.2 h))
   clear BA BB AR RD HB
   have BA := ba_
   have BB := bb_
   have AR := ar_
   have RD := Aside0.mk hd_
   have HB := Aside0.mk hb_
   clear ba_ bb_ ar_ hd_ hb_ hk_
   obtain ⟨u2, hu2, e2, f2⟩ := manifest_Unpack.nx_split (F1.out _ rfl)
   have U2 := Aside0.mk hu2
   have E2 := Aside0.mk e2
   have F2 := Aside0.mk f2
   clear hu2 e2 f2 U1 E1 F1
   refine hK.out _ _ ((blk_cell BA.out 0).trans rfl) (fun hHeld => ?_)
   clear hK K
   refine norm_ (a' := ?_) ?_ ?_
   rotate_left
   ·show Act.put _ (some 45) _ = _
    simp only [Act.put, List.setIfInBounds_toArray, List.set_cons_zero, List.set_cons_succ, i64_w, i32_w]
    rfl
   refine one_ (i := 7) (N := (some 47)) #[true, true, true, true, true, true, true, true, true, false, false, false, false, false, false] rfl rfl (by kernel_rfl) (by decide) (fun K hK => ?_)
   refine manifest_Unpack.goesP Try.func73 (by kernel_rfl) rfl #[.pointer (some ⟨gr, 0, none⟩)] (by rfl) rfl rfl (by first | (simp; done) | ((try simp only [List.map_toArray, List.map_cons, List.map_nil]); first | done | rfl)) ?_
   with_reducible refine (manifest_Unpack.signed k gr q1 w _ HB.out RD.out _ U2.out).mono ?_
   intro e wq2 hg_
   cases u2 with
   | none =>
    obtain ⟨rfl, hb_, hk_⟩ := hg_
    exact .inr ⟨_, rfl, ⟨rfl, rfl, rfl⟩, rfl, (E2.out rfl).symm, blk_kept BA.out hk_ (fun h => NA.out h), blk_kept BB.out hk_ (fun h => NB.out h), hb_⟩
   | some x2_ =>
   obtain ⟨p2, q2⟩ := x2_
   obtain ⟨rfl, hd_, hb_, hk_⟩ := hg_
   refine .inl ⟨_, rfl, ?_⟩
   have ba_ := Aside0.mk (blk_kept BA.out hk_ (fun h => NA.out h))
   have bb_ := Aside0.mk (blk_kept BB.out hk_ (fun h => NB.out h))
   have ar_ := Aside0.mk (Kd.R_kept AR.out hk_ (fun k hk h => hk.2.2 h))
   clear BA BB AR RD HB
   have BA := ba_
   have BB := bb_
   have AR := ar_
   have RD := Aside0.mk hd_
   have HB := Aside0.mk hb_
   clear ba_ bb_ ar_ hd_ hb_ hk_
   obtain ⟨u3, hu3, e3, f3⟩ := manifest_Unpack.nx_split (F2.out _ rfl)
   have U3 := Aside0.mk hu3
   have E3 := Aside0.mk e3
   have F3 := Aside0.mk f3
   clear hu3 e3 f3 U2 E2 F2
   refine hK.out _ _ ((blk_cell BA.out 0).trans rfl) (fun hHeld => ?_)
   clear hK K
   refine norm_ (a' := ?_) ?_ ?_
   rotate_left
   ·show Act.put _ (some 47) _ = _
    simp only [Act.put, List.setIfInBounds_toArray, List.set_cons_zero, List.set_cons_succ, i64_w, i32_w]
    rfl
   refine one_ (i := 9) (N := (some 49)) #[true, true, true, true, true, true, true, true, true, true, false, false, false, false, false] rfl rfl (by kernel_rfl) (by decide) (fun K hK => ?_)
   refine manifest_Unpack.goesP Try.func73 (by kernel_rfl) rfl #[.pointer (some ⟨gr, 0, none⟩)] (by rfl) rfl rfl (by first | (simp; done) | ((try simp only [List.map_toArray, List.map_cons, List.map_nil]); first | done | rfl)) ?_
   with_reducible refine (manifest_Unpack.signed k gr q2 w _ HB.out RD.out _ U3.out).mono ?_
   intro e wq3 hg_
   cases u3 with
   | none =>
    obtain ⟨rfl, hb_, hk_⟩ := hg_
    exact .inr ⟨_, rfl, ⟨rfl, rfl, rfl⟩, rfl, (E3.out rfl).symm, blk_kept BA.out hk_ (fun h => NA.out h), blk_kept BB.out hk_ (fun h => NB.out h), hb_⟩
   | some x3_ =>
   obtain ⟨p3, q3⟩ := x3_
   obtain ⟨rfl, hd_, hb_, hk_⟩ := hg_
   refine .inl ⟨_, rfl, ?_⟩
   have ba_ := Aside0.mk (blk_kept BA.out hk_ (fun h => NA.out h))
   have bb_ := Aside0.mk (blk_kept BB.out hk_ (fun h => NB.out h))
   have ar_ := Aside0.mk (Kd.R_kept AR.out hk_ (fun k hk h => hk.2.2 h))
   clear BA BB AR RD HB
   have BA := ba_
   have BB := bb_
   have AR := ar_
   have RD := Aside0.mk hd_
   have HB := Aside0.mk hb_
   clear ba_ bb_ ar_ hd_ hb_ hk_
   have HLP := Aside0.mk (F3.out _ rfl)
   clear U3 E3 F3
   refine hK.out _ _ ((blk_cell BA.out 0).trans rfl) (fun hHeld => ?_)
   clear hK K
   refine norm_ (a' := ?_) ?_ ?_
   rotate_left
   ·show Act.put _ (some 49) _ = _
    simp only [Act.put, List.setIfInBounds_toArray, List.set_cons_zero, List.set_cons_succ, i64_w, i32_w]
    rfl
   refine pure_ (i := 10) (N := (some 50)) (v := ?_) (a' := ?_) #[true, true, true, true, true, true, true, true, true, true, true, false, false, false, false] rfl rfl (by kernel_rfl) (manifest_Unpack.PQ_put (by decide) (by decide)) (Or.inl ⟨by rfl, ?_⟩) ?_ ?_
   rotate_left
   ·intro w'
    go_simp
    with_reducible rfl
   rotate_left
   ·simp only [Act.put, List.setIfInBounds_toArray, List.set_cons_zero, List.set_cons_succ, i64_w, i32_w]
    rfl
   refine one_ (i := 11) (N := (some 51)) #[true, true, true, true, true, true, true, true, true, true, true, true, false, false, false] rfl rfl (by kernel_rfl) (by decide) (fun K hK => ?_)
   refine Kd.R_lit_step k114 (w0 := w) w.heap.size 114 (by rfl) (N := 51) rfl (xs := [(⟨p0, p1, p2, p3⟩ : S114)]) (inner := [.int .i64 p0, .int .i64 p1, .int .i64 p2, .int .i64 p3]) (ok := fun _ => True) (okp := fun _ => True) ?hr_ ((Reps.none _ _).snoc (k114_mkM _ _ _ (⟨p0, p1, p2, p3⟩ : S114)) rfl) (fun _ h => h) trivial HB.out HB.out.size (by simp) ?_
   (case hr_ => first | (go_simp; done) | (go_simp; rfl))
   intro v51 w51 ho51 hb51 hg51 _
   have h51 : Below wq3.heap.size wq3 w51 := ⟨hg51.os, hg51.tape, hg51.output, hg51.size, fun i hi => hg51.block i hi (by simp)⟩
   obtain ⟨A5, c5, e5, hc5, hr5⟩ := Kd.R_reads ho51
   subst e5
   have ba_ := Aside0.mk (blk_below BA.out h51)
   have bb_ := Aside0.mk (blk_below BB.out h51)
   have ar_ := Aside0.mk (Kd.R_below AR.out h51)
   have rd_ := Aside0.mk (RD.out.kept ((Kept.refl wq3 (fun _ => False)).below h51) (fun h => h))
   clear BA BB AR RD HB
   have BA := ba_
   have BB := bb_
   have AR := ar_
   have RD := rd_
   have HB := Aside0.mk hb51
   clear ba_ bb_ ar_ rd_ hb51 h51 hg51 ho51 hc5
   refine hK.out _ _ ((blk_cell BA.out 0).trans rfl) (fun hHeld => ?_)
   clear hK K
   refine norm_ (a' := ?_) ?_ ?_
   rotate_left
   ·show Act.put _ (some 51) _ = _
    simp only [Act.put, List.setIfInBounds_toArray, List.set_cons_zero, List.set_cons_succ, i64_w, i32_w]
    rfl
   refine one_ (i := 12) (N := (some 52)) #[true, true, true, true, true, true, true, true, true, true, true, true, true, false, false] rfl rfl (by kernel_rfl) (by decide) (fun K hK => ?_)
   refine Kd.R_append_rows_step k114 (w0 := w) w.heap.size (by rfl) (.tmp 41) (.tmp 51) 24 114 (.agg #[(.int .i64 0), (.int .i64 0), (.int .i64 0), (.int .i64 0)]) 32 rfl Try.underlying24 info114 rfl (by decide) (by omega) (.slice Av acc.length cv) acc [(⟨p0, p1, p2, p3⟩ : S114)] _ _ _ (fun k => k ≠ a ∧ k ≠ b ∧ k ≠ gr) (fun _ => False) rfl rfl AR.out hr5 (fun x cs h => by rw [k114_open h]; exact k114_mkM _ _ _ _) (fun _ h => h.elim) (fun k hk => by have := blk_lt BA.out; have := blk_lt BB.out; have : gr < w51.heap.size := (by obtain ⟨⟨_, _, h_, _⟩, _⟩ := RD.out; exact blk_lt h_); omega) HB.out HB.out.size (by have := HAL.out; have := HI.out; have := HN.out; simp only [List.length_singleton]; omega) ?_
   intro v52 w52 ho52 hb52 hg52 hat52
   obtain ⟨A6, c6, e6⟩ := Kd.R_slice ho52
   subst e6
   have hba := blk_grown BA.out hg52 (fun he => (AR.out.1 a he.symm).1 rfl)
   have hbb := blk_grown BB.out hg52 (fun he => (AR.out.1 b he.symm).2.1 rfl)
   have hrd : manifest_Unpack.RD w w52 gr q3 := by
    obtain ⟨⟨A_, c_, h1_, h2_⟩, h3_⟩ := RD.out
    exact ⟨⟨A_, c_, blk_grown h1_ hg52 (fun he => (AR.out.1 gr he.symm).2.2 rfl), h2_⟩, h3_⟩
   clear BA BB AR RD HB hHeld
   have BB := Aside0.mk hbb
   have RD := Aside0.mk hrd
   have HB := Aside0.mk hb52
   clear hbb hrd hb52 hg52 hat52 hr5
   rw [List.length_append, List.length_singleton] at ho52 ⊢
   refine hK.out _ _ ((blk_cell hba 0).trans rfl) (fun hHeld => ?_)
   clear hK K
   refine norm_ (a' := ?_) ?_ ?_
   rotate_left
   ·show Act.put _ (some 52) _ = _
    simp only [Act.put, List.setIfInBounds_toArray, List.set_cons_zero, List.set_cons_succ, i64_w, i32_w]
    rfl
   refine pure_ (i := 13) (N := (some 53)) (v := ?_) (a' := ?_) #[true, true, true, true, true, true, true, true, true, true, true, true, true, true, false] rfl rfl (by kernel_rfl) (manifest_Unpack.PQ_put (by decide) (by decide)) (Or.inl ⟨by rfl, ?_⟩) ?_ ?_
   rotate_left
   ·intro w'
    go_simp
    with_reducible rfl
   rotate_left
   ·simp only [Act.put, List.setIfInBounds_toArray, List.set_cons_zero, List.set_cons_succ, i64_w, i32_w]
    rfl
   refine last_ (i := 14) (N := none) #[true, true, true, true, true, true, true, true, true, true, true, true, true, true, true] rfl rfl (by kernel_rfl) (by decide) (fun K hK => ?_)
   have hzf := blk_frozen hba 0
   have hz4 : w52.cell? ⟨a, 0, none⟩ = some (.slice Av acc.length cv) := (blk_cell hba 0).trans rfl
   refine skip_ (w1 := ?_) (by rfl) rfl ?_ ?_
   rotate_left
   ·go_simp
    rfl
   refine hK.out _ _ ?_
   clear hK K
   refine done_ (by kernel_rfl) ?_
   have hk := HK.out
   have hw1 : wrap64 ((i : Int) + 1) = ((i + 1 : Nat) : Int) := by unfold wrap64; have := HN.out; have := HI.out; omega
   refine manifest_Unpack.PQ_normal ?_
   go_wp2
   go_roundg k1
   case measure => omega
   case rel =>
    refine ⟨i + 1, q3, acc ++ [(⟨p0, p1, p2, p3⟩ : S114)], .slice A6 (acc.length + 1) c6, by omega, (by first | exact congrArg (Value.int .i64) hw1 | exact congrArg (Value.int .i64) (show (i : Int) + 1 = ((i + 1 : Nat) : Int) by omega)), HLP, ⟨blk_put hba 0 (.slice A6 (acc.length + 1) c6) rfl⟩, ⟨Kd.R_far (p := ⟨a, 0, none⟩) ho52 (fun k hk => hk.1) _⟩, ⟨by have := HAL.out; simp [this]⟩, ⟨blk_far BB.out (p := ⟨a, 0, none⟩) (Ne.symm AB.out) _⟩, ⟨?_⟩, ⟨HB.out.setCell (p := ⟨a, 0, none⟩) GA.out _⟩⟩
    obtain ⟨⟨A_, c_, h1_, h2_⟩, h3_⟩ := RD.out
    exact ⟨⟨A_, c_, blk_far h1_ (p := ⟨a, 0, none⟩) (Ne.symm NA.out) _, h2_⟩, h3_⟩
  ·obtain rfl : i = N := by omega
   have hib : decide (((i : Nat) : Int) < (i : Int)) = false := decide_eq_false (by omega)
   obtain rfl : gk = 0 := by omega
   have hy : some (some acc) = some y0 := HLP.out
   injection hy with hy
   have H3 := HYS.out acc hy.symm
   obtain ⟨t, ht, H4⟩ := Option.bind_eq_some_iff.mp H3
   obtain ⟨tr, te⟩ := t
   dsimp only at H4
   have HPK := Aside0.mk ht
   clear H3 ht hy HLP hi HYN HYS
   obtain ⟨Av, cv, rfl, hcA, hRA⟩ := Kd.R_reads AR.out
   have CA := Aside0.mk hRA
   have HCA := Aside0.mk hcA
   clear hcA hRA hk
   have z0 : wr.cell? ⟨a, 0, none⟩ = some (.slice Av acc.length cv) := (blk_cell BA.out 0).trans rfl; have zf0 := blk_frozen BA.out 0; have z1 : wr.cell? ⟨a, 1, none⟩ = some (.int .i64 v0) := (blk_cell BA.out 1).trans rfl; have zf1 := blk_frozen BA.out 1; have z2 : wr.cell? ⟨a, 2, none⟩ = some (.int .i64 v1) := (blk_cell BA.out 2).trans rfl; have zf2 := blk_frozen BA.out 2; have z3 : wr.cell? ⟨a, 3, none⟩ = some (.int .i64 v2) := (blk_cell BA.out 3).trans rfl; have zf3 := blk_frozen BA.out 3; have y0_ : wr.cell? ⟨b, 0, none⟩ = some (.int .i64 0) := (blk_cell BB.out 0).trans rfl; have yf0_ := blk_frozen BB.out 0
   by_cases hte : te = 0
   case neg =>
    have htb : (te != 0) = true := bne_iff_ne.mpr hte
    have H1 : some (([] : List S114), (0 : Int), (0 : Int), (0 : Int), (5 : Int)) = some (r1, r2, r3, r4, r5) := by rw [← H4, if_neg hte]
    clear hte H4
    go_wp2_with (first
     | (go_at_call 74; (with_reducible refine (manifest_Pack.calls k Av cv acc v0 v1 v2 _ _ _ ?s1 ?s2 HPK.out).mono ?_); (case s1 => exact CA.out); (case s2 => exact HCA.out); rintro e wp ⟨vp, rfl, hvp, hb_⟩; obtain ⟨Ap, cp, rfl, hcp, hrp⟩ := Kd.R_reads hvp; have CP := Aside0.mk hrp; have HCP := Aside0.mk hcp; clear hvp hcp hrp; have ba_ := Aside0.mk (blk_below BA.out hb_); have bb_ := Aside0.mk (blk_below BB.out hb_); have ar_ := Aside0.mk (Kd.R_below AR.out hb_); have hb2_ := Aside0.mk (below_step HB.out hb_); clear BA BB AR HB z0 z1 z2 z3 zf0 zf1 zf2 zf3 y0_ yf0_; have BA := ba_; have BB := bb_; have AR := ar_; have HB := hb2_; clear ba_ bb_ ar_ hb2_; have z0 : wp.cell? ⟨a, 0, none⟩ = some (.slice Av acc.length cv) := (blk_cell BA.out 0).trans rfl; have zf0 := blk_frozen BA.out 0; have z1 : wp.cell? ⟨a, 1, none⟩ = some (.int .i64 v0) := (blk_cell BA.out 1).trans rfl; have zf1 := blk_frozen BA.out 1; have z2 : wp.cell? ⟨a, 2, none⟩ = some (.int .i64 v1) := (blk_cell BA.out 2).trans rfl; have zf2 := blk_frozen BA.out 2; have z3 : wp.cell? ⟨a, 3, none⟩ = some (.int .i64 v2) := (blk_cell BA.out 3).trans rfl; have zf3 := blk_frozen BA.out 3; have y0_ : wp.cell? ⟨b, 0, none⟩ = some (.int .i64 0) := (blk_cell BB.out 0).trans rfl; have yf0_ := blk_frozen BB.out 0; clear hb_))
    have h2 := H1
    simp only [Option.some.injEq, Prod.mk.injEq] at h2
    obtain ⟨rfl, rfl, rfl, rfl, rfl⟩ := h2
    exact manifest_Unpack.give_up a b _ _ _ w _ rfl BA.out BB.out AB.out GA.out GB.out HB.out rfl rfl

   case pos =>
   subst hte
   have htb : ((0 : Int) != 0) = false := rfl
   rw [if_pos rfl] at H4
   obtain ⟨q, hq, H5⟩ := Option.bind_eq_some_iff.mp H4
   have HQ := Aside0.mk hq
   clear H4 hq
   cases q
   case false =>
    have H1 : some (([] : List S114), (0 : Int), (0 : Int), (0 : Int), (5 : Int)) = some (r1, r2, r3, r4, r5) := by simpa using H5
    clear H5
    go_wp2_with (first
     | (go_at_call 74; (with_reducible refine (manifest_Pack.calls k Av cv acc v0 v1 v2 _ _ _ ?s1 ?s2 HPK.out).mono ?_); (case s1 => exact CA.out); (case s2 => exact HCA.out); rintro e wp ⟨vp, rfl, hvp, hb_⟩; obtain ⟨Ap, cp, rfl, hcp, hrp⟩ := Kd.R_reads hvp; have CP := Aside0.mk hrp; have HCP := Aside0.mk hcp; clear hvp hcp hrp; have ba_ := Aside0.mk (blk_below BA.out hb_); have bb_ := Aside0.mk (blk_below BB.out hb_); have ar_ := Aside0.mk (Kd.R_below AR.out hb_); have hb2_ := Aside0.mk (below_step HB.out hb_); clear BA BB AR HB z0 z1 z2 z3 zf0 zf1 zf2 zf3 y0_ yf0_; have BA := ba_; have BB := bb_; have AR := ar_; have HB := hb2_; clear ba_ bb_ ar_ hb2_; have z0 : wp.cell? ⟨a, 0, none⟩ = some (.slice Av acc.length cv) := (blk_cell BA.out 0).trans rfl; have zf0 := blk_frozen BA.out 0; have z1 : wp.cell? ⟨a, 1, none⟩ = some (.int .i64 v0) := (blk_cell BA.out 1).trans rfl; have zf1 := blk_frozen BA.out 1; have z2 : wp.cell? ⟨a, 2, none⟩ = some (.int .i64 v1) := (blk_cell BA.out 2).trans rfl; have zf2 := blk_frozen BA.out 2; have z3 : wp.cell? ⟨a, 3, none⟩ = some (.int .i64 v2) := (blk_cell BA.out 3).trans rfl; have zf3 := blk_frozen BA.out 3; have y0_ : wp.cell? ⟨b, 0, none⟩ = some (.int .i64 0) := (blk_cell BB.out 0).trans rfl; have yf0_ := blk_frozen BB.out 0; clear hb_)
     | (go_at_call 75; (refine (bytes_Equal.calls Ap cp tr A0 c0 l0 _ _ CP.out HCP.out (Kd.C_below CR.out HB.out) HC.out HQ.out).mono ?_); rintro e we ⟨rfl, hd_⟩; have hb_ := hd_.below; clear CP; have ba_ := Aside0.mk (blk_below BA.out hb_); have bb_ := Aside0.mk (blk_below BB.out hb_); have ar_ := Aside0.mk (Kd.R_below AR.out hb_); have hb2_ := Aside0.mk (below_step HB.out hb_); clear BA BB AR HB z0 z1 z2 z3 zf0 zf1 zf2 zf3 y0_ yf0_; have BA := ba_; have BB := bb_; have AR := ar_; have HB := hb2_; clear ba_ bb_ ar_ hb2_; have z0 : we.cell? ⟨a, 0, none⟩ = some (.slice Av acc.length cv) := (blk_cell BA.out 0).trans rfl; have zf0 := blk_frozen BA.out 0; have z1 : we.cell? ⟨a, 1, none⟩ = some (.int .i64 v0) := (blk_cell BA.out 1).trans rfl; have zf1 := blk_frozen BA.out 1; have z2 : we.cell? ⟨a, 2, none⟩ = some (.int .i64 v1) := (blk_cell BA.out 2).trans rfl; have zf2 := blk_frozen BA.out 2; have z3 : we.cell? ⟨a, 3, none⟩ = some (.int .i64 v2) := (blk_cell BA.out 3).trans rfl; have zf3 := blk_frozen BA.out 3; have y0_ : we.cell? ⟨b, 0, none⟩ = some (.int .i64 0) := (blk_cell BB.out 0).trans rfl; have yf0_ := blk_frozen BB.out 0; clear hb_ hd_))
    have h2 := H1
    simp only [Option.some.injEq, Prod.mk.injEq] at h2
    obtain ⟨rfl, rfl, rfl, rfl, rfl⟩ := h2
    exact manifest_Unpack.give_up a b _ _ _ w _ rfl BA.out BB.out AB.out GA.out GB.out HB.out rfl rfl

   case true =>
   have H1 : some (acc, v0, v1, v2, (0 : Int)) = some (r1, r2, r3, r4, r5) := by simpa using H5
   clear H5
   have hab_ := AB.out
   have hba_ := AB.out.symm
   go_wp2_with (first
    | (go_at_call 74; (with_reducible refine (manifest_Pack.calls k Av cv acc v0 v1 v2 _ _ _ ?s1 ?s2 HPK.out).mono ?_); (case s1 => exact CA.out); (case s2 => exact HCA.out); rintro e wp ⟨vp, rfl, hvp, hb_⟩; obtain ⟨Ap, cp, rfl, hcp, hrp⟩ := Kd.R_reads hvp; have CP := Aside0.mk hrp; have HCP := Aside0.mk hcp; clear hvp hcp hrp; have ba_ := Aside0.mk (blk_below BA.out hb_); have bb_ := Aside0.mk (blk_below BB.out hb_); have ar_ := Aside0.mk (Kd.R_below AR.out hb_); have hb2_ := Aside0.mk (below_step HB.out hb_); clear BA BB AR HB z0 z1 z2 z3 zf0 zf1 zf2 zf3 y0_ yf0_; have BA := ba_; have BB := bb_; have AR := ar_; have HB := hb2_; clear ba_ bb_ ar_ hb2_; have z0 : wp.cell? ⟨a, 0, none⟩ = some (.slice Av acc.length cv) := (blk_cell BA.out 0).trans rfl; have zf0 := blk_frozen BA.out 0; have z1 : wp.cell? ⟨a, 1, none⟩ = some (.int .i64 v0) := (blk_cell BA.out 1).trans rfl; have zf1 := blk_frozen BA.out 1; have z2 : wp.cell? ⟨a, 2, none⟩ = some (.int .i64 v1) := (blk_cell BA.out 2).trans rfl; have zf2 := blk_frozen BA.out 2; have z3 : wp.cell? ⟨a, 3, none⟩ = some (.int .i64 v2) := (blk_cell BA.out 3).trans rfl; have zf3 := blk_frozen BA.out 3; have y0_ : wp.cell? ⟨b, 0, none⟩ = some (.int .i64 0) := (blk_cell BB.out 0).trans rfl; have yf0_ := blk_frozen BB.out 0; clear hb_)
    | (go_at_call 75; (refine (bytes_Equal.calls Ap cp tr A0 c0 l0 _ _ CP.out HCP.out (Kd.C_below CR.out HB.out) HC.out HQ.out).mono ?_); rintro e we ⟨rfl, hd_⟩; have hb_ := hd_.below; clear CP; have ba_ := Aside0.mk (blk_below BA.out hb_); have bb_ := Aside0.mk (blk_below BB.out hb_); have ar_ := Aside0.mk (Kd.R_below AR.out hb_); have hb2_ := Aside0.mk (below_step HB.out hb_); clear BA BB AR HB z0 z1 z2 z3 zf0 zf1 zf2 zf3 y0_ yf0_; have BA := ba_; have BB := bb_; have AR := ar_; have HB := hb2_; clear ba_ bb_ ar_ hb2_; have z0 : we.cell? ⟨a, 0, none⟩ = some (.slice Av acc.length cv) := (blk_cell BA.out 0).trans rfl; have zf0 := blk_frozen BA.out 0; have z1 : we.cell? ⟨a, 1, none⟩ = some (.int .i64 v0) := (blk_cell BA.out 1).trans rfl; have zf1 := blk_frozen BA.out 1; have z2 : we.cell? ⟨a, 2, none⟩ = some (.int .i64 v1) := (blk_cell BA.out 2).trans rfl; have zf2 := blk_frozen BA.out 2; have z3 : we.cell? ⟨a, 3, none⟩ = some (.int .i64 v2) := (blk_cell BA.out 3).trans rfl; have zf3 := blk_frozen BA.out 3; have y0_ : we.cell? ⟨b, 0, none⟩ = some (.int .i64 0) := (blk_cell BB.out 0).trans rfl; have yf0_ := blk_frozen BB.out 0; clear hb_ hd_))
   simp only [Option.some.injEq, Prod.mk.injEq] at H1
   obtain ⟨rfl, rfl, rfl, rfl, rfl⟩ := H1
   exact manifest_Unpack.give_back a b Av cv acc v0 v1 v2 0 _ w _ BA.out BB.out AB.out GA.out GB.out HB.out (Kd.R_mono AR.out (fun _ hk => by first | exact ⟨hk.1, hk.2.1⟩ | simp_all)) rfl rfl
end


end Go.Proofs.Ytjilnpbgclnecac.PManifestReads
