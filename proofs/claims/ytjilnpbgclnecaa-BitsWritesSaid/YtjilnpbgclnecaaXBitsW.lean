/- The law BitsWrites, walked: its call comes to true. -/
import Derived.Test.YtjilnpbgclnecaaXBitsA
import Derived.Test.YtjilnpbgclnecaaXBitsP
import Derived.StillTailTactics
namespace Go.Proofs.Ytjilnpbgclnecaa.XBits
open Go.RowKit Go.Proofs.YtjilnpbgclnecaaW.PrintWords Go.Proofs.YtjilnpbgclnecaaW.PrintLast Go.Proofs.YtjilnpbgclnecaaW.PrintMore Go.Proofs.Ytjilnpbgclnecaa.XB Go.Proofs.Ytjilnpbgclnecaa.XH Go.Proofs.Ytjilnpbgclnecaa.PBitsReads Go.Proofs.Ytjilnpbgclnecaa.XP
attribute [local go_sem] sg_u8 sg_u16 sg_u32 sg_u64 mx_u8 mx_u16 mx_u32 mx_u64
attribute [local go_sem] max_two min_two
set_option linter.unusedVariables false
set_option linter.unusedSimpArgs false
abbrev kP : Kd (Int × Int) := Kd.pair (Kd.int .i64) (Kd.int .i64)
theorem at_P {w : World} {A : Option Addr} {n : Nat} {xs : List (Int × Int)} (h : kP.C w A n xs) (i : Nat) (hi : i < xs.length) :
    ∃ ad, A = some ad ∧ w.cell? (ad.add (i * 2)) = some (.int .i64 (xs[i]).1) ∧ w.cell? ⟨(ad.add (i * 2)).block, (ad.add (i * 2)).off + 1, none⟩ = some (.int .i64 (xs[i]).2) := by
  have hn := h.1
  obtain ⟨ad, c, e, _, hK, hc0⟩ := Kd.C_get h (0, 0) (i : Int) (by omega) (by omega)
  have hc : ∀ j u, c[j]? = some u → w.cell? (ad.add ((i : Int).toNat * 2 + j)) = some u := hc0
  have hx : xs.getD (i : Int).toNat (0, 0) = xs[i] := by rw [Int.toNat_natCast, List.getD_eq_getElem?_getD, List.getElem?_eq_getElem hi]; rfl
  obtain ⟨c0, c1, rfl, h0, h1⟩ := hK
  have h0' : c0 = [.int .i64 (xs.getD (i : Int).toNat (0, 0)).1] := h0
  have h1' : c1 = [.int .i64 (xs.getD (i : Int).toNat (0, 0)).2] := h1
  subst h0' h1'
  rw [hx] at hc
  rw [Int.toNat_natCast] at hc
  exact ⟨ad, e, hc 0 _ rfl, by rw [← add_field _ _ 1 (by omega)]; exact hc 1 _ rfl⟩
theorem bs_new (w : World) (base : Nat) (hb : base ≤ w.heap.size) : BS (w.alloc (.cells #[.slice none 0 0] 69)) base (fun k => k = w.heap.size) w.heap.size [] :=
  ⟨⟨_, blk_new _ _, Kd.R_nil _ _ _ _ _⟩, rfl, hb⟩
theorem ws_new' (w : World) (base : Nat) (hb : base ≤ w.heap.size) : WS (w.alloc (.cells #[.slice none 0 0, .int .i64 0] 62)) base (fun k => k = w.heap.size) w.heap.size [] 0 :=
  ⟨⟨_, blk_new _ _, Kd.R_nil _ _ _ _ _⟩, rfl, hb⟩
theorem BS.chg {W W2 : World} {base : Nat} {S S2 : Nat → Prop} {g : Nat} {l : List Bool} (h : BS W base S g l) (hk : Chg W W2 S2) (hs : ∀ k, S2 k → ¬ S k) : BS W2 base S g l := by
  obtain ⟨⟨v, hb, hr⟩, hS, hg⟩ := h
  exact ⟨⟨v, blk_kept hb hk.kept (fun h2 => hs g h2 hS), Kd.R_kept hr hk.kept (fun k hok h2 => hs k h2 hok.1)⟩, hS, hg⟩
theorem BS.bound {W : World} {base : Nat} {S : Nat → Prop} {g : Nat} {l : List Bool} (h : BS W base S g l) : BS W base (fun k => S k ∧ base ≤ k ∧ k < W.heap.size) g l := by
  obtain ⟨⟨v, hb, hr⟩, hS, hg⟩ := h
  exact ⟨⟨v, hb, Kd.R_mono (Kd.R_bound hr) (fun k hk => ⟨⟨hk.1.1, hk.2.1, hk.2.2.1⟩, hk.1.2⟩)⟩, ⟨hS, hg, blk_lt hb⟩, hg⟩
/-- The three states of the law. -/
structure Three (w W : World) (g1 g2 g3 : Nat) (B O R : List Bool) : Prop where
  st : ∃ S1 S2 S3 : Nat → Prop, WS W w.heap.size S1 g1 (pack B) B.length ∧ WS W w.heap.size S2 g2 (pack O) O.length ∧ BS W w.heap.size S3 g3 R ∧
    (∀ k, S1 k → w.heap.size ≤ k ∧ k < W.heap.size) ∧ (∀ k, S2 k → w.heap.size ≤ k ∧ k < W.heap.size) ∧ (∀ k, S3 k → w.heap.size ≤ k ∧ k < W.heap.size) ∧
    (∀ k, S1 k → ¬ S2 k) ∧ (∀ k, S1 k → ¬ S3 k) ∧ (∀ k, S2 k → ¬ S3 k)
  b : Below w.heap.size w W
theorem Three.below {w W W2 : World} {g1 g2 g3 : Nat} {B O R : List Bool} (h : Three w W g1 g2 g3 B O R) (hb : Below W.heap.size W W2) : Three w W2 g1 g2 g3 B O R := by
  obtain ⟨⟨S1, S2, S3, h1, h2, h3, b1, b2, b3, d⟩, hB⟩ := h
  have hc := (Chg.refl W (fun _ => False)).below hb
  have hs := hb.size
  exact ⟨⟨S1, S2, S3, h1.chg hc (fun _ h => h.elim), h2.chg hc (fun _ h => h.elim), h3.chg hc (fun _ h => h.elim), fun k hk => ⟨(b1 k hk).1, by have := (b1 k hk).2; omega⟩, fun k hk => ⟨(b2 k hk).1, by have := (b2 k hk).2; omega⟩, fun k hk => ⟨(b3 k hk).1, by have := (b3 k hk).2; omega⟩, d⟩, below_step hB hb⟩
theorem Three.chg {w W W2 : World} {g1 g2 g3 : Nat} {B O R : List Bool} {S : Nat → Prop} (h : Three w W g1 g2 g3 B O R) (hc : Chg W W2 S) (hs : ∀ k, S k → W.heap.size ≤ k) : Three w W2 g1 g2 g3 B O R := by
  obtain ⟨⟨S1, S2, S3, h1, h2, h3, b1, b2, b3, d⟩, hB⟩ := h
  have hsz := hc.kept.1
  have n : ∀ k, S k → w.heap.size ≤ k := fun k hk => Nat.le_trans hB.size (hs k hk)
  exact ⟨⟨S1, S2, S3, h1.chg hc (fun k hk h => by have := hs k hk; have := (b1 k h).2; omega), h2.chg hc (fun k hk h => by have := hs k hk; have := (b2 k h).2; omega), h3.chg hc (fun k hk h => by have := hs k hk; have := (b3 k h).2; omega), fun k hk => ⟨(b1 k hk).1, by have := (b1 k hk).2; omega⟩, fun k hk => ⟨(b2 k hk).1, by have := (b2 k hk).2; omega⟩, fun k hk => ⟨(b3 k hk).1, by have := (b3 k hk).2; omega⟩, d⟩, hc.toBelow hB n⟩
theorem clamp_le (m : Int) : clampN m ≤ 64 := by unfold clampN; split <;> (try split) <;> omega
theorem pack_bounds (B : List Bool) : B.length ≤ 8 * (pack B).length ∧ 8 * (pack B).length < B.length + 8 := by rw [pack_len]; omega
theorem Three.put1 {w W : World} {g1 g2 g3 : Nat} {B O R : List Bool} (h : Three w W g1 g2 g3 B O R) (v m : Int) (hB : B.length ≤ 1000000) :
    Calls Try.prog 43 #[.pointer (some ⟨g1, 0, none⟩), .int .i64 v, .int .i64 m] W fun e w' => e = .returned (.tuple #[]) ∧ Three w w' g1 g2 g3 (B ++ vbits v (clampN m)) O R := by
  obtain ⟨⟨S1, S2, S3, h1, h2, h3, b1, b2, b3, d1, d2, d3⟩, hb⟩ := h
  have hp := pack_bounds B
  refine (put _ g1 S1 _ _ v m W h1 (by rw [pack_len]; omega) hp.1 hp.2).mono ?_
  rintro e w' ⟨he, hw, hc⟩
  rw [wputs_pack] at hw
  have hw := hw.bound
  have hs := hc.kept.1
  refine ⟨he, ⟨_, S2, S3, hw, h2.chg hc (fun k hk h => d1 k hk h), h3.chg hc (fun k hk h => d2 k hk h), fun k hk => hk.2, fun k hk => ⟨(b2 k hk).1, by have := (b2 k hk).2; omega⟩, fun k hk => ⟨(b3 k hk).1, by have := (b3 k hk).2; omega⟩, ?_, ?_, d3⟩, hc.toBelow hb (fun k hk => (b1 k hk).1)⟩
  · rintro k ⟨hk | hk, _⟩ h2
    · exact d1 k hk h2
    · have := (b2 k h2).2; omega
  · rintro k ⟨hk | hk, _⟩ h3
    · exact d2 k hk h3
    · have := (b3 k h3).2; omega
theorem Three.put2 {w W : World} {g1 g2 g3 : Nat} {B O R : List Bool} (h : Three w W g1 g2 g3 B O R) (v m : Int) (hB : O.length ≤ 1000000) :
    Calls Try.prog 43 #[.pointer (some ⟨g2, 0, none⟩), .int .i64 v, .int .i64 m] W fun e w' => e = .returned (.tuple #[]) ∧ Three w w' g1 g2 g3 B (O ++ vbits v (clampN m)) R := by
  obtain ⟨⟨S1, S2, S3, h1, h2, h3, b1, b2, b3, d1, d2, d3⟩, hb⟩ := h
  have hp := pack_bounds O
  refine (put _ g2 S2 _ _ v m W h2 (by rw [pack_len]; omega) hp.1 hp.2).mono ?_
  rintro e w' ⟨he, hw, hc⟩
  rw [wputs_pack] at hw
  have hw := hw.bound
  have hs := hc.kept.1
  refine ⟨he, ⟨S1, _, S3, h1.chg hc (fun k hk h => d1 k h hk), hw, h3.chg hc (fun k hk h => d3 k hk h), fun k hk => ⟨(b1 k hk).1, by have := (b1 k hk).2; omega⟩, fun k hk => hk.2, fun k hk => ⟨(b3 k hk).1, by have := (b3 k hk).2; omega⟩, ?_, d2, ?_⟩, hc.toBelow hb (fun k hk => (b2 k hk).1)⟩
  · rintro k h1 ⟨hk | hk, _⟩
    · exact d1 k h1 hk
    · have := (b1 k h1).2; omega
  · rintro k ⟨hk | hk, _⟩ h3
    · exact d3 k hk h3
    · have := (b3 k h3).2; omega
theorem Three.put3 {w W : World} {g1 g2 g3 : Nat} {B O R : List Bool} (h : Three w W g1 g2 g3 B O R) (v m : Int) (hB : R.length ≤ 1000000) :
    Calls Try.prog 45 #[.pointer (some ⟨g3, 0, none⟩), .int .i64 v, .int .i64 m] W fun e w' => e = .returned (.tuple #[]) ∧ Three w w' g1 g2 g3 B O (R ++ vbits v (clampN m)) := by
  obtain ⟨⟨S1, S2, S3, h1, h2, h3, b1, b2, b3, d1, d2, d3⟩, hb⟩ := h
  refine (refput _ g3 S3 _ v m W h3 (by omega)).mono ?_
  rintro e w' ⟨he, hw, hc⟩
  rw [bputs_eq] at hw
  have hw := hw.bound
  have hs := hc.kept.1
  refine ⟨he, ⟨S1, S2, _, h1.chg hc (fun k hk h => d2 k h hk), h2.chg hc (fun k hk h => d3 k h hk), hw, fun k hk => ⟨(b1 k hk).1, by have := (b1 k hk).2; omega⟩, fun k hk => ⟨(b2 k hk).1, by have := (b2 k hk).2; omega⟩, fun k hk => hk.2, d1, ?_, ?_⟩, hc.toBelow hb (fun k hk => (b3 k hk).1)⟩
  · rintro k h1 ⟨hk | hk, _⟩
    · exact d2 k h1 hk
    · have := (b1 k h1).2; omega
  · rintro k h2 ⟨hk | hk, _⟩
    · exact d3 k h2 hk
    · have := (b2 k h2).2; omega
theorem Three.len {w W : World} {g1 g2 g3 : Nat} {B O R : List Bool} (h : Three w W g1 g2 g3 B O R) :
    Calls Try.prog 46 #[.pointer (some ⟨g1, 0, none⟩)] W fun e w' => e = .returned (.int .i64 B.length) ∧ w' = W := by
  obtain ⟨⟨S1, S2, S3, h1, _⟩, hb⟩ := h
  exact wlen _ g1 S1 _ _ W h1
theorem Three.bytes {w W : World} {g1 g2 g3 : Nat} {B O R : List Bool} (h : Three w W g1 g2 g3 B O R) (hB : B.length ≤ 1000000) :
    Calls Try.prog 44 #[.pointer (some ⟨g1, 0, none⟩)] W fun e w' => ∃ v, e = .returned v ∧ (Kd.int .u8).R 5 w' W.heap.size (fun _ => True) v (pack B) ∧ Below W.heap.size W w' := by
  obtain ⟨⟨S1, S2, S3, h1, _⟩, hb⟩ := h
  exact XBits.bytes _ g1 S1 _ _ W h1 (by rw [pack_len]; omega)
theorem Three.refb {w W : World} {g1 g2 g3 : Nat} {B O R : List Bool} (h : Three w W g1 g2 g3 B O R) (hB : R.length ≤ 1000000) :
    Calls Try.prog 47 #[.pointer (some ⟨g3, 0, none⟩)] W fun e w' => ∃ v, e = .returned v ∧ (Kd.int .u8).R 5 w' W.heap.size (fun _ => True) v (pack R) ∧ Below W.heap.size W w' := by
  obtain ⟨⟨S1, S2, S3, h1, h2, h3, _⟩, hb⟩ := h
  exact refbytes _ g3 S3 _ W h3 (by omega)
theorem Three.ref {w W : World} {g1 g2 g3 : Nat} {B O R : List Bool} (h : Three w W g1 g2 g3 B O R) : ∃ A c, W.cell? ⟨g3, 0, none⟩ = some (.slice A R.length c) := by
  obtain ⟨⟨S1, S2, S3, h1, h2, ⟨⟨v, hb, hr⟩, _⟩, _⟩, _⟩ := h
  obtain ⟨A, c, rfl⟩ := Kd.R_slice hr
  exact ⟨A, c, (blk_cell hb 0).trans rfl⟩
/-- All that is put by the first i pairs. -/
def allBits : List (Int × Int) → List Bool
  | [] => []
  | p :: l => vbits p.1 (clampN p.2) ++ allBits l
theorem allBits_len : ∀ l : List (Int × Int), (allBits l).length ≤ 64 * l.length
  | [] => Nat.le_refl _
  | p :: l => by
    rw [allBits, List.length_append, vbits_len, List.length_cons]
    have := clamp_le p.2
    have := allBits_len l
    omega
theorem allBits_snoc : ∀ (l : List (Int × Int)) (p : Int × Int), allBits (l ++ [p]) = allBits l ++ vbits p.1 (clampN p.2)
  | [], p => by simp [allBits]
  | a :: l, p => by rw [List.cons_append, allBits, allBits, allBits_snoc l p, List.append_assoc]
set_option maxHeartbeats 8000000 in
set_option maxRecDepth 100000 in
theorem bitsWrites (A0 : Option Addr) (c0 : Nat) (l : List (Int × Int)) (w : World) (hr0 : kP.C w A0 l.length l) (hc0 : l.length ≤ c0) :
    Calls Try.prog 11 #[.slice A0 l.length c0] w fun e w' => e = .returned (.bool true) ∧ Below w.heap.size w w' := by
  have HR := Aside0.mk hr0
  have HB := Aside0.mk (Below.refl w.heap.size w)
  clear hr0 hc0
  by_cases hl : 200 < l.length
  · have h1 : decide ((200 : Int) < (l.length : Int)) = true := decide_eq_true (by omega)
    clear hl
    go_enter Try.func11, Try.ntmps11
    go_wp2_with (go_at_call 36; (with_reducible refine (alive4 _).mono ?_); rintro e w1 ⟨rfl, hb⟩; have HB1 := Aside0.mk hb; clear hb)
    go_ret
    exact ⟨rfl, HB1.out⟩
  have h1 : decide ((200 : Int) < (l.length : Int)) = false := decide_eq_false (by omega)
  have HL := Aside0.mk (show l.length ≤ 200 by omega)
  clear hl
  go_enter Try.func11, Try.ntmps11
  go_wp2_with (go_at_call 36; (with_reducible refine (alive4 _).mono ?_); rintro e w1 ⟨rfl, hb⟩; have HB1 := Aside0.mk hb; clear hb)
  obtain ⟨g1, e1⟩ : ∃ g, g = w1.heap.size := ⟨_, rfl⟩
  obtain ⟨g2, e2⟩ : ∃ g, g = w1.heap.size + 1 := ⟨_, rfl⟩
  obtain ⟨g3, e3⟩ : ∃ g, g = w1.heap.size + 1 + 1 := ⟨_, rfl⟩
  have HT : Aside0 (Three w (((w1.alloc (.cells #[.slice none 0 0, .int .i64 0] 62)).alloc (.cells #[.slice none 0 0, .int .i64 0] 62)).alloc (.cells #[.slice none 0 0] 69)) g1 g2 g3 [] [] []) := by
    have hs := HB1.out.size
    have a1 := ws_new' w1 w.heap.size hs
    have z1 : (w1.alloc (.cells #[.slice none 0 0, .int .i64 0] 62)).heap.size = w1.heap.size + 1 := by simp
    have a2 := ws_new' (w1.alloc (.cells #[.slice none 0 0, .int .i64 0] 62)) w.heap.size (by omega)
    have z2 : ((w1.alloc (.cells #[.slice none 0 0, .int .i64 0] 62)).alloc (.cells #[.slice none 0 0, .int .i64 0] 62)).heap.size = w1.heap.size + 1 + 1 := by simp
    have a3 := bs_new ((w1.alloc (.cells #[.slice none 0 0, .int .i64 0] 62)).alloc (.cells #[.slice none 0 0, .int .i64 0] 62)) w.heap.size (by omega)
    have z3 : (((w1.alloc (.cells #[.slice none 0 0, .int .i64 0] 62)).alloc (.cells #[.slice none 0 0, .int .i64 0] 62)).alloc (.cells #[.slice none 0 0] 69)).heap.size = w1.heap.size + 1 + 1 + 1 := by simp
    have hb3 : Below w.heap.size w (((w1.alloc (.cells #[.slice none 0 0, .int .i64 0] 62)).alloc (.cells #[.slice none 0 0, .int .i64 0] 62)).alloc (.cells #[.slice none 0 0] 69)) := below_alloc (below_alloc (below_alloc HB1.out _) _) _
    have c1 : Chg (w1.alloc (.cells #[.slice none 0 0, .int .i64 0] 62)) (((w1.alloc (.cells #[.slice none 0 0, .int .i64 0] 62)).alloc (.cells #[.slice none 0 0, .int .i64 0] 62)).alloc (.cells #[.slice none 0 0] 69)) (fun _ => False) := (Chg.refl _ _).below (below_alloc (below_alloc (Below.refl _ _) _) _)
    have c2 : Chg ((w1.alloc (.cells #[.slice none 0 0, .int .i64 0] 62)).alloc (.cells #[.slice none 0 0, .int .i64 0] 62)) (((w1.alloc (.cells #[.slice none 0 0, .int .i64 0] 62)).alloc (.cells #[.slice none 0 0, .int .i64 0] 62)).alloc (.cells #[.slice none 0 0] 69)) (fun _ => False) := (Chg.refl _ _).below (below_alloc (Below.refl _ _) _)
    rw [z1] at a2
    rw [z2] at a3
    rw [← e1] at a1
    rw [← e2] at a2
    rw [← e3] at a3
    exact ⟨⟨_, _, _, a1.chg c1 (fun _ h => h.elim), a2.chg c2 (fun _ h => h.elim), a3, fun k hk => by omega, fun k hk => by omega, fun k hk => by omega, fun k hk => by omega, fun k hk => by omega, fun k hk => by omega⟩, hb3⟩
  rw [← e3, ← e2, ← e1]
  clear e1 e2 e3 HB1
  go_loopg [7] l.length (fun kq v7 w' => ∃ (i : Nat) (O : List Bool), kq + i = l.length ∧ v7 = .int .i64 i ∧ Aside0 (O.length = 3 * i) ∧ Aside0 (Three w w' g1 g2 g3 (allBits (l.take i)) O (allBits (l.take i))))
  case atStart => exact ⟨0, [], rfl, rfl, ⟨rfl⟩, HT⟩
  case round =>
    clear HT HB
    obtain ⟨i, O, hk, rfl, HO, HT⟩ := hrel
    by_cases hi : i < l.length
    · obtain ⟨k1, rfl⟩ : ∃ k1, gk = k1 + 1 := ⟨gk - 1, by omega⟩
      have hib : decide ((i : Int) < (l.length : Int)) = true := decide_eq_true (by omega)
      have HAB := Aside0.mk (show (allBits (l.take i)).length ≤ 12800 by have h2 : (l.take i).length ≤ 200 := (by have := HL.out; rw [List.length_take]; omega); have := allBits_len (l.take i); omega)
      obtain ⟨ad, e, q0, q1⟩ := at_P (Kd.C_below HR.out HT.out.b) i hi
      subst e
      have hi0 : (0 : Int) ≤ (i : Int) := by omega
      have hi1 : (i : Int) < (l.length : Int) := by omega
      obtain ⟨x, hx⟩ : ∃ x, x = (l[i]).1 := ⟨_, rfl⟩
      obtain ⟨y, hy⟩ : ∃ y, y = (l[i]).2 := ⟨_, rfl⟩
      rw [← hx] at q0
      rw [← hy] at q1
      have HX := Aside0.mk hx
      have HY := Aside0.mk hy
      clear hx hy
      go_wp2
      go_still_tail 11, (by kernel_rfl)
      change wpList _ _ _ _ _ wr.drew
      have HT1 := Aside0.mk (HT.out.below (below_drew (Below.refl _ _)))
      generalize wr.drew = W1 at HT1 ⊢
      clear q0 q1 HT
      go_wp2_with fail
      refine (HT1.out.put1 x y (by have := HAB.out; omega)).mono ?_
      rintro e W2 ⟨rfl, ht⟩
      have HT2 := Aside0.mk ht
      clear ht HT1
      go_wp2_with fail
      refine (HT2.out.put2 1 3 (by have := HO.out; have := HL.out; omega)).mono ?_
      rintro e W3 ⟨rfl, ht⟩
      have HT3 := Aside0.mk ht
      clear ht HT2
      obtain ⟨ad', e, q0, q1⟩ := at_P (Kd.C_below HR.out HT3.out.b) i hi
      cases e
      rw [← HX.out] at q0
      rw [← HY.out] at q1
      go_wp2_with fail
      go_still_tail 11, (by kernel_rfl)
      change wpList _ _ _ _ _ W3.drew
      have HT4 := Aside0.mk (HT3.out.below (below_drew (Below.refl _ _)))
      generalize W3.drew = W4 at HT4 ⊢
      clear q0 q1 HT3
      go_wp2_with fail
      refine (HT4.out.put3 x y (by have := HAB.out; omega)).mono ?_
      rintro e W5 ⟨rfl, ht⟩
      have hB : allBits (l.take i) ++ vbits x (clampN y) = allBits (l.take (i + 1)) := by
        rw [HX.out, HY.out, ← allBits_snoc, ← List.take_succ_eq_append_getElem hi]
      rw [hB] at ht
      clear hB
      have HB5 := Aside0.mk (show (allBits (l.take (i + 1))).length ≤ 12800 by have h2 : (l.take (i + 1)).length ≤ 200 := (by have := HL.out; rw [List.length_take]; omega); have := allBits_len (l.take (i + 1)); omega)
      obtain ⟨O2, hO2⟩ : ∃ O2, O2 = O ++ vbits 1 (clampN 3) := ⟨_, rfl⟩
      rw [← hO2] at ht
      have HO2 := Aside0.mk (show O2.length = 3 * (i + 1) by rw [hO2, List.length_append, vbits_len, HO.out, show clampN 3 = 3 from rfl]; omega)
      clear hO2 HO HAB
      obtain ⟨B2, hB2⟩ : ∃ B2, B2 = allBits (l.take (i + 1)) := ⟨_, rfl⟩
      rw [← hB2] at ht HB5
      have EB := Aside0.mk hB2
      clear hB2
      have HT5 := Aside0.mk ht
      clear ht HT4 HX HY
      obtain ⟨A3, c3, z3⟩ := HT5.out.ref
      go_wp2_with fail
      go_quiet ((go_at_call 46; exact Calls.quiet_of_same ((HT5.out.below (pw_below_drewN (Below.refl _ _) _)).len)))
      have HT6 := Aside0.mk (HT5.out.below (pw_below_drewN (Below.refl _ _) nq))
      clear z3 HT5
      generalize W5.drewN nq = W6 at HT6 ⊢
      go_wp2_with fail
      refine (HT6.out.bytes (by have := HB5.out; omega)).mono ?_
      rintro e W7 ⟨v8, rfl, hv8, hb8⟩
      obtain ⟨A8, c8, e8⟩ := Kd.R_slice hv8
      subst e8
      have HV8 := Aside0.mk hv8
      have HW7 := Aside0.mk hb8.size
      have HT7 := Aside0.mk (HT6.out.below hb8)
      have hblk : ∀ k, (Value.slice A8 (pack B2).length c8).ownBlock = some k → W6.heap.size ≤ k := fun k hk => by
        obtain ⟨inner, ho⟩ := Kd.R_own hv8
        exact own_base ho k hk
      have HBL := Aside0.mk hblk
      have HC7 := Aside0.mk ((Chg.refl W6 (fun k => W6.heap.size ≤ k)).below hb8)
      clear hv8 hb8 hblk
      obtain ⟨q, hq⟩ : ∃ q, q = (pack B2).length := ⟨_, rfl⟩
      rw [← hq] at HV8 HBL ⊢
      have HQ := Aside0.mk (show q ≤ 100000 by rw [hq, pack_len]; have := HB5.out; omega)
      have HV8' : Aside0 (∃ p : List Int, p.length = q ∧ (Kd.int .u8).R 5 W7 W6.heap.size (fun _ => True) (.slice A8 q c8) p) := ⟨_, hq.symm, HV8.out⟩
      clear HV8 hq
      go_wp2_with fail
      go_loopg [9] q (fun kq v9 w' => ∃ j : Nat, kq + j = q ∧ v9 = .int .i64 j ∧ Aside0 (∃ p : List Int, p.length = q ∧ (Kd.int .u8).R 5 w' W6.heap.size (fun _ => True) (.slice A8 q c8) p) ∧ Aside0 (Chg W6 w' (fun k => W6.heap.size ≤ k)))
      case atStart => exact ⟨0, rfl, rfl, HV8', HC7⟩
      case round =>
        clear HV8' HC7
        obtain ⟨j, hkj, rfl, HV, HC⟩ := hrel
        by_cases hj : j < q
        · obtain ⟨k2, rfl⟩ : ∃ k2, gk = k2 + 1 := ⟨gk - 1, by omega⟩
          have hjb : decide ((j : Int) < (q : Int)) = true := decide_eq_true (by omega)
          have hj0 : (0 : Int) ≤ (j : Int) := by omega
          have hj1 : (j : Int) < (q : Int) := by omega
          obtain ⟨p, hp, hv⟩ := HV.out
          obtain ⟨b2, cc2, e2, hbb, hbl, _⟩ := Kd.R_form hv (by omega)
          injection e2 with e2 e4 e3
          subst e2 e3
          have HPP := Aside0.mk hp
          clear e4 hp
          obtain ⟨hcl, hcf⟩ := Kd.R_celln 0 hv (j : Int) hj0 hj1
          rw [Int.toNat_natCast] at hcl hcf
          obtain ⟨x2, hx2⟩ : ∃ x2, x2 = rdOf 0 p (j : Int) := ⟨_, rfl⟩
          rw [← hx2] at hcl
          clear hx2
          have HVV := Aside0.mk hv
          have HBB := Aside0.mk hbb
          clear hv hbb
          go_wp2
          go_roundg k2
          case measure => omega
          case rel =>
            refine ⟨j + 1, by omega, by first | rfl | exact congrArg (Value.int .i64) (by have := HQ.out; unfold wrap64; omega), ⟨p.set j (Go.bits .xor .u8 x2 255), by rw [List.length_set]; exact HPP.out, ?_⟩, ⟨?_⟩⟩
            · have hp := Kd.R_putn HVV.out (j : Int) (Go.bits .xor .u8 x2 255)
              rw [Int.toNat_natCast] at hp
              exact hp
            · exact HC.out.set (p := ⟨b2, j, none⟩) (.inl HBB.out) _
        · obtain rfl : j = q := by omega
          have hjb : decide (((j : Nat) : Int) < (j : Int)) = false := decide_eq_false (by omega)
          go_wp2
          go_roundg k1
          case measure => omega
          case rel => exact ⟨i + 1, O2, by omega, by first | rfl | exact congrArg (Value.int .i64) (by have := HL.out; unfold wrap64; omega), HO2, ⟨by rw [← EB.out]; exact HT6.out.chg HC.out (fun k hk => hk)⟩⟩
    · obtain rfl : i = l.length := by omega
      have hib : decide (((l.length : Nat) : Int) < (l.length : Int)) = false := decide_eq_false (by omega)
      rw [List.take_length] at HT
      have HAB := Aside0.mk (show (allBits l).length ≤ 12800 by have := allBits_len l; have := HL.out; omega)
      obtain ⟨B, hB⟩ : ∃ B, B = allBits l := ⟨_, rfl⟩
      rw [← hB] at HT HAB
      clear hB
      go_wp2
      have hu9 := Try.underlying9
      go_region_with (first | (go_at_call 44; (with_reducible refine ((HT.out.below (below_drew (Below.refl _ _))).bytes (by have := HAB.out; omega)).mono ?_); rintro e w2 ⟨v2, rfl, hv2, hb2⟩; have HT2 := Aside0.mk ((HT.out.below (below_drew (Below.refl _ _))).below hb2); have hcv2 := own_string (P := Try.prog) Try.underlying22 Try.underlying5 Try.underlying9 (Kd.own_of_R hv2); have HV2 := Aside0.mk hv2; clear hv2 hb2) | (go_at_call 47; (with_reducible refine (HT2.out.refb (by have := HAB.out; omega)).mono ?_); rintro e w3 ⟨v3, rfl, hv3, hb3⟩; have HT3 := Aside0.mk (HT2.out.below hb3); have hcv3 := own_string (P := Try.prog) Try.underlying22 Try.underlying5 Try.underlying9 (Kd.own_of_R hv3); have hcv4 := own_string (P := Try.prog) Try.underlying22 Try.underlying5 Try.underlying9 (Kd.own_of_R (Kd.R_below HV2.out hb3)); clear hv3 hb3))
      all_goals
        go_wp2
        go_ret
        exact ⟨rfl, HT3.out.b⟩
end Go.Proofs.Ytjilnpbgclnecaa.XBits
