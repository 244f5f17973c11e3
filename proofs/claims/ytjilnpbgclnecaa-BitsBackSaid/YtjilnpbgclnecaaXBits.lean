/- The writers and the readers of the chapter bits, of the program and of the reference: what their calls do to their states. -/
import Derived.Test.YtjilnpbgclnecaaPBitsReadsx
import Derived.Recover
import Derived.Test.YtjilnpbgclnecaaXPure
import Derived.WalkLawsBesides
namespace Go.Proofs.Ytjilnpbgclnecaa.XBits
open Go.RowKit Go.Proofs.YtjilnpbgclnecaaW.PrintWords Go.Proofs.YtjilnpbgclnecaaW.PrintLast Go.Proofs.YtjilnpbgclnecaaW.PrintMore Go.Proofs.Ytjilnpbgclnecaa.XB Go.Proofs.Ytjilnpbgclnecaa.XH Go.Proofs.Ytjilnpbgclnecaa.PBitsReads Go.Proofs.Ytjilnpbgclnecaa.XP
attribute [local go_sem] sg_u8 sg_u16 sg_u32 sg_u64 mx_u8 mx_u16 mx_u32 mx_u64
attribute [local go_sem] max_two min_two
set_option linter.unusedVariables false
set_option linter.unusedSimpArgs false
/-- What a call turns of the old world: the blocks of S. -/
structure Chg (w w' : World) (S : Nat → Prop) : Prop where
  os : w'.os = w.os
  tape : w'.tape = w.tape
  output : w'.output = w.output
  kept : Kept w w' S
theorem Chg.refl (w : World) (S : Nat → Prop) : Chg w w S := ⟨rfl, rfl, rfl, Kept.refl w S⟩
theorem Chg.drewN {w W : World} {S : Nat → Prop} (h : Chg w W S) (m : Nat) : Chg w (W.drewN m) S := by
  have hb := pw_below_drewN (Below.refl W.heap.size W) m
  exact ⟨hb.os.trans h.os, hb.tape.trans h.tape, hb.output.trans h.output, h.kept.below hb⟩
theorem Chg.drew {w W : World} {S : Nat → Prop} (h : Chg w W S) : Chg w W.drew S := h.drewN 1
theorem Chg.below {w W W2 : World} {S : Nat → Prop} (h : Chg w W S) (hb : Below W.heap.size W W2) : Chg w W2 S := ⟨hb.os.trans h.os, hb.tape.trans h.tape, hb.output.trans h.output, h.kept.below hb⟩
theorem Chg.set {w W : World} {S : Nat → Prop} (h : Chg w W S) {p : Addr} (hp : S p.block ∨ w.heap.size ≤ p.block) (u : Value) : Chg w (W.setCell p u) S := ⟨h.os, h.tape, h.output, h.kept.setCell hp u⟩
theorem Chg.grown {w W W2 : World} {S : Nat → Prop} {row : Option Nat} (h : Chg w W S) (hg : W.grownBy W2 row) (hr : ∀ k, row = some k → S k ∨ w.heap.size ≤ k) : Chg w W2 S :=
  ⟨hg.os.trans h.os, hg.tape.trans h.tape, hg.output.trans h.output, Kept.of_grown hg h.kept hr⟩
theorem Chg.then_ {w W W2 : World} {S S2 : Nat → Prop} (h : Chg w W S) (k : Chg W W2 S2) (hs : ∀ k, S2 k → S k ∨ w.heap.size ≤ k) : Chg w W2 S :=
  ⟨k.os.trans h.os, k.tape.trans h.tape, k.output.trans h.output, h.kept.then_ k.kept hs⟩
theorem Chg.toBelow {w0 w W : World} {S : Nat → Prop} (h : Chg w W S) (hb : Below w0.heap.size w0 w) (hs : ∀ k, S k → w0.heap.size ≤ k) : Below w0.heap.size w0 W :=
  ⟨h.os.trans hb.os, h.tape.trans hb.tape, h.output.trans hb.output, Nat.le_trans hb.size h.kept.1, fun k hk => (h.kept.2 k (by have := hb.size; omega) (fun hS => by have := hs k hS; omega)).trans (hb.block k hk)⟩
/-- A reader: where its row lies, is in ok. -/
structure RS (W : World) (ok : Nat → Prop) (g : Nat) (l : List Int) (p : Int) : Prop where
  v : ∃ A c, W.heap[g]? = some (.cells #[.slice A l.length c, .int .i64 p] 87 (0, 0)) ∧ (Kd.int .u8).F W ok A l.length l
  ng : ¬ ok g
theorem RS.chg {W W2 : World} {ok S : Nat → Prop} {g : Nat} {l : List Int} {p : Int} (h : RS W ok g l p) (hk : Chg W W2 S) (hs : ∀ k, S k → k ≠ g ∧ ¬ ok k) : RS W2 ok g l p := by
  obtain ⟨⟨A, c, hb, hF⟩, hn⟩ := h
  exact ⟨⟨A, c, blk_kept hb hk.kept (fun hS => (hs g hS).1 rfl), Kd.F_kept hF hk.kept (fun k hok hS => (hs k hS).2 hok)⟩, hn⟩
theorem RS.lt {W : World} {ok : Nat → Prop} {g : Nat} {l : List Int} {p : Int} (h : RS W ok g l p) : g < W.heap.size := by
  obtain ⟨⟨A, c, hb, _⟩, _⟩ := h
  exact blk_lt hb
theorem left (g : Nat) (l : List Int) (p : Nat) (ok : Nat → Prop) (w : World) (h : RS w ok g l p) (hl : l.length ≤ 1000000) (hp : p ≤ 8 * l.length) :
    Calls Try.prog 42 #[.pointer (some ⟨g, 0, none⟩)] w fun e w' => e = .returned (.int .i64 (8 * (l.length : Int) - (p : Int))) ∧ ∃ n, w' = w.drewN n := by
  obtain ⟨⟨A, c, hb, hF⟩, hn⟩ := h
  have z0 : w.cell? ⟨g, 0, none⟩ = some (.slice A l.length c) := (blk_cell hb 0).trans rfl
  have z1 : w.cell? ⟨g, 1, none⟩ = some (.int .i64 (p : Int)) := (blk_cell hb 1).trans rfl
  have h1 : IntKind.i64.wrap (8 * (l.length : Int)) = 8 * (l.length : Int) := by rw [IntKind.wrap_i64]; omega
  have h2 : IntKind.i64.wrap (8 * (l.length : Int) - (p : Int)) = 8 * (l.length : Int) - (p : Int) := by rw [IntKind.wrap_i64]; omega
  clear hb hF hn
  go_enter Try.func42, Try.ntmps42
  go_wp2
  go_quiet (fail)
  go_wp2
  go_ret
  exact ⟨rfl, _, rfl⟩
theorem take_arg (g : Nat) (n : Int) (w : World) (hn : n < 0 ∨ 64 < n) :
    Calls Try.prog 57 #[.pointer (some ⟨g, 0, none⟩), .int .i64 n] w fun e w' => e = .panicked [{ v := .iface 89 (.agg #[.int .i64 1]), recovered := false }] ∧ w' = w := by
  by_cases h : n < 0
  · have h1 : decide (n < 0) = true := decide_eq_true h
    go_enter Try.func57, Try.ntmps57
    go_wp2
    exact ⟨rfl, rfl, rfl⟩
  · have h1 : decide (n < 0) = false := decide_eq_false h
    have h2 : decide (64 < n) = true := decide_eq_true (by omega)
    clear h hn
    go_enter Try.func57, Try.ntmps57
    go_wp2
    exact ⟨rfl, rfl, rfl⟩
theorem take_byte (g : Nat) (l : List Int) (p : Nat) (n : Int) (ok : Nat → Prop) (w : World) (hI : RS w ok g l p) (hl : l.length ≤ 1000000) (hp : p ≤ 8 * l.length) (h0 : 0 ≤ n) (h64 : n ≤ 64) (hn : 8 * (l.length : Int) - p < n) :
    Calls Try.prog 57 #[.pointer (some ⟨g, 0, none⟩), .int .i64 n] w fun e w' => e = .panicked [{ v := .iface 89 (.agg #[.int .i64 5]), recovered := false }] ∧ ∃ m, w' = w.drewN m := by
  have h1 : decide (n < 0) = false := decide_eq_false (by omega)
  have h2 : decide (64 < n) = false := decide_eq_false (by omega)
  have hx : decide (8 * (l.length : Int) - p < n) = true := decide_eq_true hn
  have HI := Aside0.mk hI
  have HL := Aside0.mk hl
  have HP := Aside0.mk hp
  clear hI hl hp h0 h64 hn
  go_enter Try.func57, Try.ntmps57
  go_wp2_with (go_at_call 42; (with_reducible refine (left g l p ok _ HI.out HL.out HP.out).mono ?_); rintro e w1 ⟨rfl, m, rfl⟩)
  exact ⟨rfl, rfl, _, rfl⟩
def takeStep (l : List Int) (p : Nat) (v : Int) : Int := Go.bits .or .u64 (IntKind.u64.wrap (v * 2)) (IntKind.u64.wrap (Go.bits .and .u8 (rd l ((p / 8 : Nat) : Int) / 2 ^ (7 - p % 8)) 1))
def takeV (l : List Int) (p : Nat) : Nat → Int
  | 0 => 0
  | i + 1 => takeStep l (p + i) (takeV l p i)
set_option maxHeartbeats 1000000 in
theorem take_ok (g : Nat) (l : List Int) (p n : Nat) (ok : Nat → Prop) (w : World) (hI : RS w ok g l p) (hl : l.length ≤ 1000000) (h64 : n ≤ 64) (hn : p + n ≤ 8 * l.length) :
    Calls Try.prog 57 #[.pointer (some ⟨g, 0, none⟩), .int .i64 n] w fun e w' => e = .returned (.int .i64 (wrap64 (takeV l p n))) ∧ RS w' ok g l (p + n : Nat) ∧ Chg w w' (fun k => k = g) := by
  have h1 : decide ((n : Int) < 0) = false := decide_eq_false (by omega)
  have h2 : decide (64 < (n : Int)) = false := decide_eq_false (by omega)
  have hx : decide (8 * (l.length : Int) - p < n) = false := decide_eq_false (by omega)
  have HI := Aside0.mk hI
  have HL := Aside0.mk hl
  have H64 := Aside0.mk h64
  have HN := Aside0.mk hn
  clear hI hl h64 hn
  go_enter Try.func57, Try.ntmps57
  go_wp2_with (go_at_call 42; (with_reducible refine (left g l p ok _ HI.out HL.out (by have := HN.out; omega)).mono ?_); rintro e w1 ⟨rfl, m, rfl⟩)
  go_loopg [5, 21] n (fun kq v5 v21 w' => ∃ i : Nat, kq + i = n ∧ v21 = .int .i64 i ∧ v5 = .int .u64 (takeV l p i) ∧ Aside0 (RS w' ok g l (p + i : Nat)) ∧ Aside0 (Chg w w' (fun k => k = g)))
  case atStart => exact ⟨0, by omega, rfl, rfl, ⟨HI.out.chg ((Chg.refl w (fun _ => False)).drewN _) (fun _ h => h.elim)⟩, ⟨(Chg.refl _ _).drewN _⟩⟩
  case round =>
    clear HI
    obtain ⟨i, hk, rfl, rfl, HI, HK⟩ := hrel
    by_cases hi : i < n
    · obtain ⟨k1, rfl⟩ : ∃ k1, gk = k1 + 1 := ⟨gk - 1, by omega⟩
      have hib : decide ((i : Int) < (n : Int)) = true := decide_eq_true (by omega)
      obtain ⟨⟨A, c, hb, hF⟩, hng⟩ := HI.out
      have hlt : ((p + i : Nat) : Int) / 8 < l.length := by have := HN.out; omega
      obtain ⟨ad, e, hc⟩ := Kd.at_int (Kd.F_now hF) (((p + i : Nat) : Int) / 8) (by omega) hlt
      subst e
      rw [show (((p + i : Nat) : Int) / 8).toNat = (p + i) / 8 by omega] at hc
      rw [show ((p + i : Nat) : Int) / 8 = (((p + i) / 8 : Nat) : Int) by omega] at hc
      obtain ⟨x, hx⟩ : ∃ x, x = rd l (((p + i) / 8 : Nat) : Int) := ⟨_, rfl⟩
      rw [← hx] at hc
      have HX := Aside0.mk hx
      clear hx
      have hz0 : (0 : Int) ≤ (p : Int) + (i : Int) := by omega
      have hz1 : ((p : Int) + (i : Int)) / 8 < (l.length : Int) := by omega
      have hz2 : (p + i) / 8 < l.length := by omega
      obtain ⟨m, hm⟩ : ∃ m : Nat, m = (p + i) % 8 := ⟨_, rfl⟩
      have hm7 : (m : Int) ≤ 7 := by omega
      have h7 : Go.bits .and .i64 ((p : Int) + (i : Int)) 7 = (m : Int) := by
        have := and_mask_i64 (a := (p : Int) + (i : Int)) 3 (by omega) (by omega) (by have := HN.out; have := HL.out; omega)
        rw [hm]
        rw [show ((p : Int) + (i : Int)).toNat = p + i by omega] at this
        exact this
      have HM := Aside0.mk hm
      clear hm
      have z0 : wr.cell? ⟨g, 0, none⟩ = some (.slice (some ad) l.length c) := (blk_cell hb 0).trans rfl
      have z1 : wr.cell? ⟨g, 1, none⟩ = some (.int .i64 ((p + i : Nat) : Int)) := (blk_cell hb 1).trans rfl
      have zf1 := blk_frozen hb 1
      have HBK := Aside0.mk hb
      have HF := Aside0.mk hF
      have HNG := Aside0.mk hng
      clear hb hF hng
      go_wp2
      go_quiet (fail)
      go_wp2
      go_roundg k1
      case measure => omega
      case rel =>
        refine ⟨i + 1, by omega, by first | rfl | exact congrArg (Value.int .i64) (by have := H64.out; unfold wrap64; omega), ?_, ?_, ?_⟩
        · show Value.int .u64 _ = Value.int .u64 (takeStep l (p + i) (takeV l p i))
          unfold takeStep
          rw [← HX.out, ← HM.out]
        · rw [show wrap64 ((p : Int) + (i : Int) + 1) = ((p + (i + 1) : Nat) : Int) by have := HN.out; have := HL.out; unfold wrap64; omega]
          exact ⟨⟨⟨_, _, blk_put (blk_drewN HBK.out nq) 1 _ rfl, Kd.F_far (p := ⟨g, 1, none⟩) (Kd.F_drewN HF.out nq) (fun k hk he => HNG.out (show ok g from by have e : k = g := he; rw [← e]; exact hk)) _⟩, HNG.out⟩⟩
        · exact ⟨(HK.out.drewN nq).set (p := ⟨g, 1, none⟩) (.inl rfl) _⟩
    · obtain rfl : i = n := by omega
      have hib : decide (((i : Nat) : Int) < (i : Int)) = false := decide_eq_false (by omega)
      go_wp2
      go_ret
      exact ⟨rfl, HI.out, HK.out⟩
theorem catch_panicking (a b : Nat) (x y : Int) (c : Int) (w : World) (ha : w.heap[a]? = some (.cells #[.int .i64 x] 3 (0, 0))) (hb : w.heap[b]? = some (.cells #[.int .i64 y] 28 (0, 0))) (hab : a ≠ b) :
    CallsD Try.prog 56 #[.pointer (some ⟨a, 0, none⟩), .pointer (some ⟨b, 0, none⟩)] (.panicking [{ v := .iface 89 (.agg #[.int .i64 c]), recovered := false }]) w fun e u' w' =>
      e = .returned (.tuple #[]) ∧ u' = .panicking [{ v := .iface 89 (.agg #[.int .i64 c]), recovered := true }] ∧ w'.heap[a]? = some (.cells #[.int .i64 0] 3 (0, 0)) ∧ w'.heap[b]? = some (.cells #[.int .i64 c] 28 (0, 0)) ∧ Kept w w' (fun k => k = a ∨ k = b) ∧ w'.os = w.os ∧ w'.tape = w.tape ∧ w'.output = w.output := by
  have HA := Aside0.mk ha
  have HB := Aside0.mk hb
  clear ha hb
  refine callsD_of_wpS Try.func56 rfl fun c₀ cs hu => ?_
  apply wpS_seq
  apply wpS_region
  simp [wpOpsS, go_sem, recoverD, hu, Try.ntmps56, Exit.thenS]
  have c1 : w.cell? ⟨a, 0, none⟩ = some (.int .i64 x) := (blk_cell HA.out 0).trans rfl
  have c1f := blk_frozen HA.out 0
  have c2 : w.cell? ⟨b, 0, none⟩ = some (.int .i64 y) := (blk_cell HB.out 0).trans rfl
  have c2f := blk_frozen HB.out 0
  have hta : ∀ (v : Value) (W : World), (Instr.typeAssert (.iface 89 v) 20 89 true).run Try.prog W = .ok (.tuple #[v, .bool true]) W := fun _ _ => by kernel_rfl
  have hn0 : a < w.heap.size := blk_lt HA.out
  have hn1 : b < w.heap.size := blk_lt HB.out
  apply wpS_of_wp
  simp only [List.replicate, Array.replicate_succ, Array.replicate_zero, List.push_toArray, List.append_toArray, List.nil_append, List.cons_append, List.setIfInBounds_toArray, List.set_cons_succ, List.set_cons_zero]
  go_wp2
  go_region
  all_goals go_wp2
  have k1 : (w.setCell ⟨a, 0, none⟩ (.int .i64 0)).heap[a]? = some (.cells #[.int .i64 0] 3 (0, 0)) := blk_put HA.out 0 _ rfl
  have k2 : ((w.setCell ⟨a, 0, none⟩ (.int .i64 0)).setCell ⟨b, 0, none⟩ (.int .i64 c)).heap[a]? = some (.cells #[.int .i64 0] 3 (0, 0)) := blk_far k1 (p := ⟨b, 0, none⟩) hab _
  have k3 : ((w.setCell ⟨a, 0, none⟩ (.int .i64 0)).setCell ⟨b, 0, none⟩ (.int .i64 c)).heap[b]? = some (.cells #[.int .i64 c] 28 (0, 0)) := blk_put (blk_far HB.out (p := ⟨a, 0, none⟩) (Ne.symm hab) _) 0 _ rfl
  refine ⟨rfl, _, rfl, _, results_none rfl _ _ _, rfl, rfl, blk_drew (blk_alloc k2 _), blk_drew (blk_alloc k3 _), ?_, rfl, rfl, rfl⟩
  exact ((((Kept.refl w _).setCell (p := ⟨a, 0, none⟩) (.inl (.inl rfl)) _).setCell (p := ⟨b, 0, none⟩) (.inl (.inr rfl)) _).alloc _).drew
theorem catch_idle (a b : Nat) (w : World) :
    CallsD Try.prog 56 #[.pointer (some ⟨a, 0, none⟩), .pointer (some ⟨b, 0, none⟩)] .returning w fun e u' w' => e = .returned (.tuple #[]) ∧ u' = .returning ∧ w' = w := by
  refine callsD_of_wpS Try.func56 rfl fun c₀ cs hu => ?_
  apply wpS_seq
  apply wpS_region
  simp [wpOpsS, go_sem, recoverD, hu, Try.ntmps56, Exit.thenS]
  apply wpS_of_wp
  simp only [List.replicate, Array.replicate_succ, Array.replicate_zero, List.push_toArray, List.append_toArray, List.nil_append, List.cons_append, List.setIfInBounds_toArray, List.set_cons_succ, List.set_cons_zero]
  go_wp2
  cases c₀
  exact ⟨rfl, _, (by simp_all), _, results_none rfl _ _ _, rfl, rfl, rfl⟩
theorem get_ok (g : Nat) (l : List Int) (p n : Nat) (ok : Nat → Prop) (w : World) (hI : RS w ok g l p) (hlt : ∀ k, ok k → k < w.heap.size) (hl : l.length ≤ 1000000) (h64 : n ≤ 64) (hn : p + n ≤ 8 * l.length) :
    Calls Try.prog 39 #[.pointer (some ⟨g, 0, none⟩), .int .i64 n] w fun e w' => e = .returned (.tuple #[.int .i64 (wrap64 (takeV l p n)), .int .i64 0]) ∧ RS w' ok g l (p + n : Nat) ∧ Chg w w' (fun k => k = g) := by
  have hmf : ∀ (fn : Fn) (first cap : Array Value) (w : World), (Instr.makeFunc fn first cap).run Try.prog w = .ok (.func fn first cap) w := fun _ _ _ _ => rfl
  have HI := Aside0.mk hI
  have HL := Aside0.mk hl
  have H64 := Aside0.mk h64
  have HN := Aside0.mk hn
  have HLT := Aside0.mk hlt
  clear hI hl h64 hn hlt
  go_enter_defers Try.func39, Try.ntmps39
  go_wp2_with fail
  obtain ⟨W, hW⟩ : ∃ W, ((w.alloc (.cells #[.int .i64 0] 3)).alloc (.cells #[.int .i64 0] 28)) = W := ⟨_, rfl⟩
  have hbw : Below w.heap.size w W := by rw [← hW]; exact below_alloc (below_alloc (Below.refl _ _) _) _
  have ha : W.heap[w.heap.size]? = some (.cells #[.int .i64 0] 3 (0, 0)) := by rw [← hW]; exact blk_alloc (blk_new w _) _
  have hb : W.heap[w.heap.size + 1]? = some (.cells #[.int .i64 0] 28 (0, 0)) := by rw [← hW]; have z := blk_new (w.alloc (.cells #[.int .i64 0] 3)) (.cells #[.int .i64 0] 28); rw [World.size_alloc] at z; exact z
  obtain ⟨a, ea⟩ : ∃ a, a = w.heap.size := ⟨_, rfl⟩
  obtain ⟨b, eb⟩ : ∃ b, b = w.heap.size + 1 := ⟨_, rfl⟩
  have hgw : g < w.heap.size := HI.out.lt
  rw [hW, ← eb, ← ea]
  rw [← ea] at ha
  rw [← eb] at hb
  refine (take_ok g l p n ok W (HI.out.chg ((Chg.refl w (fun _ => False)).below hbw) (fun _ h => h.elim)) HL.out H64.out HN.out).mono ?_
  rintro e w1 ⟨rfl, hi, hK⟩
  have ha1 := Aside0.mk (blk_kept ha hK.kept (by omega))
  have hb1 := Aside0.mk (blk_kept hb hK.kept (by omega))
  have KB := Aside0.mk (((Chg.refl w (fun k => k = g)).below hbw).then_ hK (fun k hk => .inl hk))
  have HI1 := Aside0.mk hi
  have EA := Aside0.mk ea
  have EB := Aside0.mk eb
  have GW := Aside0.mk hgw
  have hab : a ≠ b := by omega
  clear hi hK ha hb hW hbw ea eb hgw HI
  have c1 : w1.cell? ⟨a, 0, none⟩ = some (.int .i64 0) := (blk_cell ha1.out 0).trans rfl
  have c1f := blk_frozen ha1.out 0
  have c2 : w1.cell? ⟨b, 0, none⟩ = some (.int .i64 0) := (blk_cell hb1.out 0).trans rfl
  have c2f := blk_frozen hb1.out 0
  go_wp2
  have k1 : (w1.setCell ⟨a, 0, none⟩ (.int .i64 (wrap64 (takeV l p n)))).heap[a]? = some (.cells #[.int .i64 (wrap64 (takeV l p n))] 3 (0, 0)) := blk_put ha1.out 0 _ rfl
  have k2 := Aside0.mk (blk_far k1 (p := ⟨b, 0, none⟩) hab (.int .i64 0))
  have k3 : Aside0 (((w1.setCell ⟨a, 0, none⟩ (.int .i64 (wrap64 (takeV l p n)))).setCell ⟨b, 0, none⟩ (.int .i64 0)).heap[b]? = some (.cells #[.int .i64 0] 28 (0, 0))) := ⟨blk_put (blk_far hb1.out (p := ⟨a, 0, none⟩) (Ne.symm hab) _) 0 _ rfl⟩
  clear k1
  refine leaves_cons (f := 56) (args := #[.pointer (some ⟨a, 0, none⟩), .pointer (some ⟨b, 0, none⟩)]) (by simp) (by simp [go_sem]) ?_
  refine (catch_idle a b _).mono ?_
  rintro e u' w'' ⟨rfl, rfl, rfl⟩
  have e1 := (blk_cell k2.out 0).trans (show (#[Value.int .i64 (wrap64 (takeV l p n))] : Array Value)[0]? = some (.int .i64 (wrap64 (takeV l p n))) from rfl)
  have e2 := (blk_cell k3.out 0).trans (show (#[Value.int .i64 0] : Array Value)[0]? = some (.int .i64 0) from rfl)
  refine ⟨.tuple #[.int .i64 (wrap64 (takeV l p n)), .int .i64 0], ?_, rfl, ?_, ?_⟩
  · simp [results, Try.results39, go_sem, e1, e2]
  · exact HI1.out.chg (((Chg.refl w1 (fun k => k = a ∨ k = b)).set (p := ⟨a, 0, none⟩) (.inl (.inl rfl)) _).set (p := ⟨b, 0, none⟩) (.inl (.inr rfl)) _) (by have := EA.out; have := EB.out; have := GW.out; intro k hk; exact ⟨by omega, fun ho => by have := HLT.out k ho; omega⟩)
  · exact (KB.out.set (p := ⟨a, 0, none⟩) (.inr (by have := EA.out; show _ ≤ a; omega)) _).set (p := ⟨b, 0, none⟩) (.inr (by have := EB.out; show _ ≤ b; omega)) _
theorem get_fail (g : Nat) (l : List Int) (p : Nat) (n c : Int) (ok : Nat → Prop) (w : World) (hI : RS w ok g l p) (hlt : ∀ k, ok k → k < w.heap.size)
    (ht : ∀ W, RS W ok g l p → Calls Try.prog 57 #[.pointer (some ⟨g, 0, none⟩), .int .i64 n] W fun e w' => e = .panicked [{ v := .iface 89 (.agg #[.int .i64 c]), recovered := false }] ∧ ∃ m, w' = W.drewN m) :
    Calls Try.prog 39 #[.pointer (some ⟨g, 0, none⟩), .int .i64 n] w fun e w' => e = .returned (.tuple #[.int .i64 0, .int .i64 c]) ∧ RS w' ok g l p ∧ Chg w w' (fun k => k = g) := by
  have hmf : ∀ (fn : Fn) (first cap : Array Value) (w : World), (Instr.makeFunc fn first cap).run Try.prog w = .ok (.func fn first cap) w := fun _ _ _ _ => rfl
  have HI := Aside0.mk hI
  have HT := Aside0.mk ht
  have HLT := Aside0.mk hlt
  clear hI ht hlt
  go_enter_defers Try.func39, Try.ntmps39
  go_wp2_with fail
  obtain ⟨W, hW⟩ : ∃ W, ((w.alloc (.cells #[.int .i64 0] 3)).alloc (.cells #[.int .i64 0] 28)) = W := ⟨_, rfl⟩
  have hbw : Below w.heap.size w W := by rw [← hW]; exact below_alloc (below_alloc (Below.refl _ _) _) _
  have ha : W.heap[w.heap.size]? = some (.cells #[.int .i64 0] 3 (0, 0)) := by rw [← hW]; exact blk_alloc (blk_new w _) _
  have hb : W.heap[w.heap.size + 1]? = some (.cells #[.int .i64 0] 28 (0, 0)) := by rw [← hW]; have z := blk_new (w.alloc (.cells #[.int .i64 0] 3)) (.cells #[.int .i64 0] 28); rw [World.size_alloc] at z; exact z
  obtain ⟨a, ea⟩ : ∃ a, a = w.heap.size := ⟨_, rfl⟩
  obtain ⟨b, eb⟩ : ∃ b, b = w.heap.size + 1 := ⟨_, rfl⟩
  have hgw : g < w.heap.size := HI.out.lt
  rw [hW, ← eb, ← ea]
  rw [← ea] at ha
  rw [← eb] at hb
  have hcw := (Chg.refl w (fun _ => False)).below hbw
  refine (HT.out W (HI.out.chg hcw (fun _ h => h.elim))).mono ?_
  rintro e w1 ⟨rfl, m, rfl⟩
  have hcw1 := hcw.drewN m
  have ha1 := Aside0.mk (blk_drewN ha m)
  have hb1 := Aside0.mk (blk_drewN hb m)
  have HI1 := Aside0.mk (HI.out.chg hcw1 (fun _ h => h.elim))
  have KB := Aside0.mk hcw1
  generalize W.drewN m = w1 at ha1 hb1 HI1 KB ⊢
  have EA := Aside0.mk ea
  have EB := Aside0.mk eb
  have GW := Aside0.mk hgw
  have hab : a ≠ b := by omega
  clear ha hb hW hbw ea eb hgw HI hcw hcw1
  go_wp2
  refine leaves_cons (f := 56) (args := #[.pointer (some ⟨a, 0, none⟩), .pointer (some ⟨b, 0, none⟩)]) (by simp) (by simp [go_sem]) ?_
  refine (catch_panicking a b 0 0 c _ ha1.out hb1.out hab).mono ?_
  rintro e u' w'' ⟨rfl, rfl, k2, k3, hkp, ho1, ho2, ho3⟩
  have e1 := (blk_cell k2 0).trans (show (#[Value.int .i64 0] : Array Value)[0]? = some (.int .i64 0) from rfl)
  have e2 := (blk_cell k3 0).trans (show (#[Value.int .i64 c] : Array Value)[0]? = some (.int .i64 c) from rfl)
  have hch : Chg w1 w'' (fun k => k = a ∨ k = b) := ⟨ho1, ho2, ho3, hkp⟩
  refine ⟨.tuple #[.int .i64 0, .int .i64 c], ?_, rfl, ?_, ?_⟩
  · simp [results, Try.results39, go_sem, e1, e2]
  · exact HI1.out.chg hch (by have := EA.out; have := EB.out; have := GW.out; intro k hk; exact ⟨by omega, fun ho => by have := HLT.out k ho; omega⟩)
  · exact (Chg.refl w (fun k => k = g)).then_ (KB.out.then_ hch (by have := EA.out; have := EB.out; intro k hk; omega)) (fun k hk => hk.elim)
theorem get_arg (g : Nat) (l : List Int) (p : Nat) (n : Int) (ok : Nat → Prop) (w : World) (hI : RS w ok g l p) (hlt : ∀ k, ok k → k < w.heap.size) (hn : n < 0 ∨ 64 < n) :
    Calls Try.prog 39 #[.pointer (some ⟨g, 0, none⟩), .int .i64 n] w fun e w' => e = .returned (.tuple #[.int .i64 0, .int .i64 1]) ∧ RS w' ok g l p ∧ Chg w w' (fun k => k = g) :=
  get_fail g l p n 1 ok w hI hlt (fun W hi => (take_arg g n W hn).mono fun e w' ⟨he, hw⟩ => ⟨he, 0, hw⟩)
theorem get_byte (g : Nat) (l : List Int) (p : Nat) (n : Int) (ok : Nat → Prop) (w : World) (hI : RS w ok g l p) (hlt : ∀ k, ok k → k < w.heap.size) (hl : l.length ≤ 1000000) (hp : p ≤ 8 * l.length) (h0 : 0 ≤ n) (h64 : n ≤ 64) (hn : 8 * (l.length : Int) - p < n) :
    Calls Try.prog 39 #[.pointer (some ⟨g, 0, none⟩), .int .i64 n] w fun e w' => e = .returned (.tuple #[.int .i64 0, .int .i64 5]) ∧ RS w' ok g l p ∧ Chg w w' (fun k => k = g) :=
  get_fail g l p n 5 ok w hI hlt (fun W hi => take_byte g l p n ok W hi hl hp h0 h64 hn)
theorem newreader (A : Option Addr) (c : Nat) (l : List Int) (w : World) (hr : Kd.C (Kd.int .u8) w A l.length l) (hc : l.length ≤ c) (hl : l.length ≤ 1000000) :
    Calls Try.prog 37 #[.slice A l.length c] w fun e w' => ∃ g : Nat, e = .returned (.pointer (some ⟨g, 0, none⟩)) ∧ RS w' (fun k => w.heap.size ≤ k ∧ k < g) g l 0 ∧ Below w.heap.size w w' ∧ w.heap.size ≤ g ∧ g < w'.heap.size := by
  have HR := Aside0.mk hr
  have HC := Aside0.mk hc
  have HF := Aside0.mk (show slices_Clone_byte_byte.f l = some l by unfold slices_Clone_byte_byte.f; exact if_pos (by omega))
  clear hr hc hl
  go_enter Try.func37, Try.ntmps37
  go_wp2_with (go_at_call 55; (with_reducible refine (slices_Clone_byte_byte.calls A c l l _ HR.out HC.out HF.out).mono ?_); rintro e w1 ⟨v, rfl, hv, hb⟩; obtain ⟨A1, c1, e1⟩ := Kd.R_slice hv; subst e1; have HV := Aside0.mk hv; have HB := Aside0.mk hb; clear hv hb)
  go_ret
  have z := Kd.R_F (Kd.R_mono (ok' := fun k => w.heap.size ≤ k ∧ k < w1.heap.size) (Kd.R_bound HV.out) (fun k hk => ⟨hk.2.1, hk.2.2.1⟩))
  exact ⟨w1.heap.size, rfl, ⟨⟨A1, c1, blk_new _ _, Kd.F_alloc z _⟩, fun h => Nat.lt_irrefl _ h.2⟩, below_alloc HB.out _, HB.out.size, by simp⟩
/-- A writer: its blocks are in S. -/
structure WS (W : World) (base : Nat) (S : Nat → Prop) (g : Nat) (l : List Int) (n : Nat) : Prop where
  v : ∃ v, W.heap[g]? = some (.cells #[v, .int .i64 n] 62 (0, 0)) ∧ (Kd.int .u8).R 5 W base (fun k => S k ∧ k ≠ g) v l
  s : S g
  b : base ≤ g
def wl1 (l : List Int) (n : Nat) : List Int := if n % 8 = 0 then l ++ [0] else l
def bitOf (v : Int) (i : Nat) : Int := (Go.bits .and .u64 (IntKind.u64.wrap v / 2 ^ i) 1) % 256
def wput1 (l : List Int) (n : Nat) (b : Int) : List Int := (wl1 l n).set ((wl1 l n).length - 1) (Go.bits .or .u8 (rdOf 0 (wl1 l n) (((wl1 l n).length : Int) - 1)) (b * 2 ^ (7 - n % 8) % 256))
theorem wput1_len (l : List Int) (n : Nat) (b : Int) : (wput1 l n b).length = (wl1 l n).length := by simp [wput1]
/-- The bits i - 1, .., 0 of v. -/
def wputs (v : Int) : Nat → List Int × Nat → List Int × Nat
  | 0, s => s
  | i + 1, s => wputs v i (wput1 s.1 s.2 (bitOf v i), s.2 + 1)
theorem and7 (n : Nat) (h : n ≤ 1000000000) : Go.bits .and .i64 (n : Int) 7 = ((n % 8 : Nat) : Int) := by
  have := and_mask_i64 (a := (n : Int)) 3 (by omega) (by omega) (by omega)
  rw [Int.toNat_natCast] at this
  exact this
def clampN (m : Int) : Nat := if m < 0 then 0 else if 64 < m then 64 else m.toNat
set_option maxHeartbeats 4000000 in
set_option maxRecDepth 100000 in
theorem put (base g : Nat) (S : Nat → Prop) (l : List Int) (n : Nat) (v m : Int) (w : World) (hW : WS w base S g l n) (hl : l.length ≤ 1000000) (hn : n ≤ 8 * l.length) (hn2 : 8 * l.length < n + 8) :
    Calls Try.prog 43 #[.pointer (some ⟨g, 0, none⟩), .int .i64 v, .int .i64 m] w fun e w' => e = .returned (.tuple #[]) ∧ WS w' base (fun k => S k ∨ w.heap.size ≤ k) g (wputs v (clampN m) (l, n)).1 (wputs v (clampN m) (l, n)).2 ∧ Chg w w' S := by
  obtain ⟨N, hN⟩ : ∃ N : Nat, clampN m = N := ⟨_, rfl⟩
  have hN64 : N ≤ 64 := by rw [← hN]; unfold clampN; split <;> (try split) <;> omega
  rw [hN]
  have HN := Aside0.mk hN64
  have HW := Aside0.mk hW
  have HL := Aside0.mk hl
  have HA := Aside0.mk hn
  have HA2 := Aside0.mk hn2
  have hmx : Builtin.max2 (.int .i64 0) (.int .i64 m) = pure (.int .i64 (if 0 < m then m else 0)) := max2_int _ _ _ _
  have hmn : Builtin.min2 (.int .i64 (if 0 < m then m else 0)) (.int .i64 64) = pure (.int .i64 (N : Int)) := by
    rw [min2_int, ← hN]
    congr 2
    unfold clampN
    split <;> split <;> (try split) <;> (try split) <;> omega
  generalize (if 0 < m then m else 0) = x at hmx hmn
  clear hN64 hW hl hn hn2 hN
  have HST : Aside0 (WS w base (fun k => S k ∨ w.heap.size ≤ k) g l n) := ⟨by
    obtain ⟨⟨vv, h1, h2⟩, h3, h4⟩ := HW.out
    exact ⟨⟨vv, h1, Kd.R_mono h2 (fun k hk => ⟨.inl hk.1, hk.2⟩)⟩, .inl h3, h4⟩⟩
  have HSG := Aside0.mk HW.out.s
  clear HW
  go_enter Try.func43, Try.ntmps43
  have hN2 : (N : Int) ≤ 64 := by have := HN.out; omega
  go_wp2
  clear hmx hmn hN2
  go_loopg [6] N (fun kq v6 w' => ∃ (lc : List Int) (nc : Nat), v6 = .int .i64 ((kq : Int) - 1) ∧ Aside0 (wputs v kq (lc, nc) = wputs v N (l, n)) ∧ Aside0 (nc ≤ 8 * lc.length ∧ 8 * lc.length < nc + 8) ∧ Aside0 (kq ≤ 64 ∧ lc.length + kq ≤ l.length + 64) ∧ Aside0 (WS w' base (fun k => S k ∨ w.heap.size ≤ k) g lc nc) ∧ Aside0 (Chg w w' S))
  case atStart => exact ⟨l, n, rfl, ⟨rfl⟩, ⟨HA.out, HA2.out⟩, ⟨HN.out, by have := HN.out; omega⟩, HST, ⟨Chg.refl _ _⟩⟩
  case round =>
    clear HST HA HA2
    obtain ⟨lc, nc, rfl, HE, HA, HK, HST, HC⟩ := hrel
    cases gk with
    | zero =>
      go_wp2
      go_end0
      have e := HE.out
      exact ⟨rfl, by rw [← e]; exact HST.out, HC.out⟩
    | succ j =>
      have hj1 : ((j + 1 : Nat) : Int) - 1 = (j : Int) := by omega
      rw [hj1]
      clear hj1
      obtain ⟨⟨vv, hb, hr⟩, hs, hbg⟩ := HST.out
      have hn7 := and7 nc (by have := HA.out; have := HK.out; have := HL.out; omega)
      obtain ⟨Av, cv, ev⟩ := Kd.R_slice hr
      subst ev
      have hne : some g ≠ (Value.slice Av lc.length cv).ownBlock := fun he => (hr.1 g he.symm).2 rfl
      have z0 : wr.cell? ⟨g, 0, none⟩ = some (.slice Av lc.length cv) := (blk_cell hb 0).trans rfl
      have z1 : wr.cell? ⟨g, 1, none⟩ = some (.int .i64 nc) := (blk_cell hb 1).trans rfl
      have zf0 := blk_frozen hb 0
      have zf1 := blk_frozen hb 1
      have HBK := Aside0.mk hb
      have HR := Aside0.mk hr
      have HBG := Aside0.mk hbg
      have HNE := Aside0.mk hne
      have hgl := blk_lt hb
      have HGL := Aside0.mk hgl
      have HSZ := Aside0.mk (show base ≤ wr.heap.size by omega)
      clear hb hr hbg hs hgl hne
      have hj0 : (0 : Int) ≤ (j : Int) := by omega
      have hj64 : (j : Int) ≤ 64 := by have := HK.out; omega
      have hnc : (nc : Int) ≤ 1000000000 := by have := HA.out; have := HK.out; have := HL.out; omega
      have hnc0 : 0 ≤ (nc : Int) := by omega
      obtain ⟨m8, hm8⟩ : ∃ m8 : Nat, m8 = nc % 8 := ⟨_, rfl⟩
      rw [← hm8] at hn7
      have hm7 : (m8 : Int) ≤ 7 := by omega
      have HM8 := Aside0.mk hm8
      clear hm8
      go_upto_if 22 with fail
      go_cut [] (fun wc => ∃ (A2 : Option Addr) (c2 : Nat), Aside0 (wc.heap[g]? = some (.cells #[.slice A2 (wl1 lc nc).length c2, .int .i64 nc] 62 (0, 0))) ∧ Aside0 ((Kd.int .u8).R 5 wc base (fun k => (S k ∨ w.heap.size ≤ k) ∧ k ≠ g) (.slice A2 (wl1 lc nc).length c2) (wl1 lc nc)) ∧ Aside0 (Chg w wc S))
      case first =>
        have hm8 := HM8.out
        by_cases h8 : nc % 8 = 0
        · have h8b : ((m8 : Int) == 0) = true := beq_iff_eq.2 (by omega)
          clear hm8
          go_wp2_with (first | ((with_reducible refine gate_builtin (b := .append) (xs := #[.tmp 27, .tmp 28]) rfl ?_); at_builtin; refine Kd.R_append (Kd.int .u8) (w0 := wr) base rfl (.tmp 27) (.tmp 28) 22 5 (.int .u8 0) 1 rfl Try.underlying22 info5 rfl (by decide) (by decide) (.slice Av lc.length cv) lc 0 [.int .u8 0] (fun k => (S k ∨ w.heap.size ≤ k) ∧ k ≠ g) (fun _ => False) rfl rfl ?aP (fun _ hk => hk.elim) ?aF ?aO ?aB ?aS ?aL ?_; (case aP => exact rfl); (case aB => exact Below.refl _ _); (case aF => exact (fun k hk => ⟨.inr (Nat.le_trans HC.out.kept.1 hk), by have := HGL.out; omega⟩)); (case aO => exact HR.out); (case aS => exact HSZ.out); (case aL => have := HK.out; have := HL.out; omega); intro v1 w1 ho hb hg hat; obtain ⟨A1, c1, e1⟩ := Kd.R_slice ho; subst e1; have hb1 := blk_grown HBK.out hg HNE.out; have HO1 := Aside0.mk ho; have HG1 := Aside0.mk hg; clear z0 z1 zf0 zf1; have z0 : w1.cell? ⟨g, 0, none⟩ = some (.slice Av lc.length cv) := (blk_cell hb1 0).trans rfl; have z1 : w1.cell? ⟨g, 1, none⟩ = some (.int .i64 nc) := (blk_cell hb1 1).trans rfl; have zf0 := blk_frozen hb1 0; have zf1 := blk_frozen hb1 1; have HB1 := Aside0.mk hb1; clear hb1 ho hb hg hat))
          go_meet
          case rel =>
            have ho := HO1.out
            have hl2 : lc ++ [0] = wl1 lc nc := (if_pos h8).symm
            rw [show (lc ++ [(0 : Int)]).length = lc.length + 1 by simp] at ho
            have hln : (wl1 lc nc).length = lc.length + 1 := by rw [← hl2]; simp
            refine ⟨A1, c1, ⟨?_⟩, ⟨?_⟩, ⟨?_⟩⟩
            · rw [hln]; exact blk_put HB1.out 0 _ rfl
            · rw [hln, ← hl2]; exact Kd.R_far (p := ⟨g, 0, none⟩) ho (fun k hk => hk.2) _
            · exact ((HC.out).grown HG1.out (fun k hk => (HR.out.1 k hk).1)).set (p := ⟨g, 0, none⟩) (.inl HSG.out) _
        · have h8b : ((m8 : Int) == 0) = false := beq_eq_false_iff_ne.2 (by omega)
          clear hm8
          go_wp2
          go_meet
          case rel =>
            have hl2 : wl1 lc nc = lc := if_neg h8
            exact ⟨Av, cv, ⟨by rw [hl2]; exact HBK.out⟩, ⟨by rw [hl2]; exact HR.out⟩, HC⟩
      case rest =>
        clear z0 z1 zf0 zf1 HBK HNE HST HC HR HGL
        obtain ⟨A2, c2, HB2, HR2, HC2⟩ := hcut
        have hb2 := HB2.out
        have hr2 := HR2.out
        have hc2 := HC2.out
        clear HB2 HR2 HC2
        have hp2 : 0 < (wl1 lc nc).length := by
          unfold wl1
          split
          · simp
          · have := HA.out; omega
        have hle2 : (wl1 lc nc).length ≤ lc.length + 1 := by
          unfold wl1
          split <;> simp
        obtain ⟨l2, hl2⟩ : ∃ l2, l2 = wl1 lc nc := ⟨_, rfl⟩
        rw [← hl2] at hb2 hr2 hp2 hle2
        obtain ⟨b2, cc2, e2, hbb, hbl, _⟩ := Kd.R_form hr2 hp2
        injection e2 with e2 _ e3
        subst e2 e3
        have hbg2 : b2 ≠ g := (hr2.1 b2 rfl).2
        have hin : ((l2.length : Int) - 1) < l2.length := by omega
        have hin0 : 0 ≤ (l2.length : Int) - 1 := by omega
        obtain ⟨hcl, hcf⟩ := Kd.R_celln 0 hr2 ((l2.length : Int) - 1) hin0 hin
        rw [show ((l2.length : Int) - 1).toNat = l2.length - 1 by omega] at hcl hcf
        have z0 : wc.cell? ⟨g, 0, none⟩ = some (.slice (some ⟨b2, 0, none⟩) l2.length c2) := (blk_cell hb2 0).trans rfl
        have z1 : wc.cell? ⟨g, 1, none⟩ = some (.int .i64 nc) := (blk_cell hb2 1).trans rfl
        have zf0 := blk_frozen hb2 0
        have zf1 := blk_frozen hb2 1
        obtain ⟨x2, hx2⟩ : ∃ x2, x2 = rdOf 0 l2 ((l2.length : Int) - 1) := ⟨_, rfl⟩
        rw [← hx2] at hcl
        have HB2 := Aside0.mk hb2
        have HR2 := Aside0.mk hr2
        have HC2 := Aside0.mk hc2
        have HP2 := Aside0.mk hp2
        have HLE2 := Aside0.mk hle2
        have HL2 := Aside0.mk hl2
        have HX2 := Aside0.mk hx2
        clear hb2 hr2 hc2 hp2 hle2 hl2 hx2
        go_wp2
        obtain ⟨bv, hbv⟩ : ∃ bv, bv = bitOf v j := ⟨_, rfl⟩
        rw [show (Go.bits .and .u64 (IntKind.u64.wrap v / 2 ^ j) 1) % 256 = bv from hbv.symm]
        have HBV := Aside0.mk hbv
        clear hbv
        have hgb := Ne.symm hbg2
        have hw1 : IntKind.i64.wrap ((l2.length : Int) - 1) = (l2.length : Int) - 1 := by rw [IntKind.wrap_i64]; have := HLE2.out; have := HK.out; have := HL.out; omega
        have hw2 : ((l2.length : Int) - 1).toNat = l2.length - 1 := by omega
        have hw3 : IntKind.i64.wrap (7 - (m8 : Int)) = 7 - (m8 : Int) := by rw [IntKind.wrap_i64]; omega
        have hw4 : (7 - (m8 : Int)).toNat = 7 - m8 := by omega
        have hw5 : 0 ≤ 7 - (m8 : Int) := by omega
        go_region
        clear hw1 hw2 hw3 hw4 hw5
        all_goals go_wp2
        go_roundg j
        case measure => omega
        case rel =>
          have hwl : (wput1 lc nc bv).length = l2.length := by rw [wput1_len, ← HL2.out]
          have hset : l2.set (l2.length - 1) (Go.bits .or .u8 x2 (bv * 2 ^ (7 - m8) % 256)) = wput1 lc nc bv := by
            unfold wput1
            rw [← HL2.out, HX2.out, HM8.out]
          have hl1 : l2.length = if nc % 8 = 0 then lc.length + 1 else lc.length := by
            rw [HL2.out]
            unfold wl1
            split <;> simp
          have hp := Kd.R_putn HR2.out ((l2.length : Int) - 1) (Go.bits .or .u8 x2 (bv * 2 ^ (7 - m8) % 256))
          rw [show ((l2.length : Int) - 1).toNat = l2.length - 1 by omega, hset] at hp
          refine ⟨wput1 lc nc bv, nc + 1, rfl, ⟨?_⟩, ⟨?_⟩, ⟨?_⟩, ⟨⟨⟨.slice (some ⟨b2, 0, none⟩) l2.length c2, ?_, ?_⟩, .inl HSG.out, HBG.out⟩⟩, ⟨?_⟩⟩
          · rw [HBV.out]
            exact HE.out
          · have := HA.out
            rw [hwl, hl1]
            split <;> omega
          · have := HK.out
            have := HLE2.out
            rw [hwl]
            omega
          · exact blk_drew (blk_put (blk_far HB2.out (p := ⟨b2, l2.length - 1, none⟩) hgb _) 1 _ rfl)
          · exact Kd.R_drew (Kd.R_far (p := ⟨g, 1, none⟩) hp (fun k hk => hk.2) _)
          · exact ((HC2.out.set (p := ⟨b2, l2.length - 1, none⟩) (HR2.out.1 b2 rfl).1 _).set (p := ⟨g, 1, none⟩) (.inl HSG.out) _).drew
theorem bytes (base g : Nat) (S : Nat → Prop) (l : List Int) (n : Nat) (w : World) (hW : WS w base S g l n) (hl : l.length ≤ 1000000) :
    Calls Try.prog 44 #[.pointer (some ⟨g, 0, none⟩)] w fun e w' => ∃ v, e = .returned v ∧ (Kd.int .u8).R 5 w' w.heap.size (fun _ => True) v l ∧ Below w.heap.size w w' := by
  obtain ⟨⟨vv, hb, hr⟩, hs, hbg⟩ := hW
  obtain ⟨Av, cv, ev⟩ := Kd.R_slice hr
  subst ev
  obtain ⟨_, hc, hR⟩ := Kd.R_reads' hr
  have HR := Aside0.mk hR
  have HC := Aside0.mk hc
  have HF := Aside0.mk (show slices_Clone_byte_byte.f l = some l by unfold slices_Clone_byte_byte.f; exact if_pos (by omega))
  have z0 : w.cell? ⟨g, 0, none⟩ = some (.slice Av l.length cv) := (blk_cell hb 0).trans rfl
  clear hb hr hs hbg hc hR hl
  go_enter Try.func44, Try.ntmps44
  go_wp2_with (go_at_call 55; (with_reducible refine (slices_Clone_byte_byte.calls Av cv l l _ HR.out HC.out HF.out).mono ?_); rintro e w1 ⟨v, rfl, hv, hb⟩; have HV := Aside0.mk hv; have HB := Aside0.mk hb; clear hv hb)
  go_ret
  exact ⟨_, rfl, HV.out, HB.out⟩
theorem wlen (base g : Nat) (S : Nat → Prop) (l : List Int) (n : Nat) (w : World) (hW : WS w base S g l n) :
    Calls Try.prog 46 #[.pointer (some ⟨g, 0, none⟩)] w fun e w' => e = .returned (.int .i64 n) ∧ w' = w := by
  obtain ⟨⟨vv, hb, hr⟩, hs, hbg⟩ := hW
  have z0 : w.cell? ⟨g, 1, none⟩ = some (.int .i64 n) := (blk_cell hb 1).trans rfl
  clear hb hr hs hbg
  go_enter Try.func46, Try.ntmps46
  go_wp2
  go_ret
  exact ⟨rfl, rfl⟩
/-- The reference's bits: its blocks are in S. -/
structure BS (W : World) (base : Nat) (S : Nat → Prop) (g : Nat) (l : List Bool) : Prop where
  v : ∃ v, W.heap[g]? = some (.cells #[v] 69 (0, 0)) ∧ Kd.bool.R 4 W base (fun k => S k ∧ k ≠ g) v l
  s : S g
  b : base ≤ g
/-- The bits i - 1, .., 0 of v. -/
def bputs (v : Int) : Nat → List Bool → List Bool
  | 0, s => s
  | i + 1, s => bputs v i (s ++ [Go.bits .and .u64 (IntKind.u64.wrap v / 2 ^ i) 1 == 1])
set_option maxHeartbeats 4000000 in
set_option maxRecDepth 100000 in
theorem refput (base g : Nat) (S : Nat → Prop) (l : List Bool) (v m : Int) (w : World) (hW : BS w base S g l) (hl : l.length ≤ 100000000) :
    Calls Try.prog 45 #[.pointer (some ⟨g, 0, none⟩), .int .i64 v, .int .i64 m] w fun e w' => e = .returned (.tuple #[]) ∧ BS w' base (fun k => S k ∨ w.heap.size ≤ k) g (bputs v (clampN m) l) ∧ Chg w w' S := by
  obtain ⟨N, hN⟩ : ∃ N : Nat, clampN m = N := ⟨_, rfl⟩
  have hN64 : N ≤ 64 := by rw [← hN]; unfold clampN; split <;> (try split) <;> omega
  rw [hN]
  have hmn : (if (if m < 0 then 0 else m) > 64 then 64 else (if m < 0 then 0 else m)) = (N : Int) := by
    rw [← hN]
    unfold clampN
    split <;> split <;> (try split) <;> omega
  have HMN := Aside0.mk hmn
  have HN := Aside0.mk hN64
  have HL := Aside0.mk hl
  have HST : Aside0 (BS w base (fun k => S k ∨ w.heap.size ≤ k) g l) := ⟨by
    obtain ⟨⟨vv, h1, h2⟩, h3, h4⟩ := hW
    exact ⟨⟨vv, h1, Kd.R_mono h2 (fun k hk => ⟨.inl hk.1, hk.2⟩)⟩, .inl h3, h4⟩⟩
  have HSG := Aside0.mk hW.s
  clear hN64 hW hl hN hmn
  go_enter Try.func45, Try.ntmps45
  go_upto_if 8 with fail
  go_cut [2] (fun v2 wc => v2 = .int .i64 (if m < 0 then 0 else m) ∧ wc = w)
  case first =>
    by_cases h : m < 0
    · have h1 : decide (m < 0) = true := decide_eq_true h
      go_wp2
      go_meet
      case rel => exact ⟨by rw [if_pos h], rfl⟩
    · have h1 : decide (m < 0) = false := decide_eq_false h
      go_wp2
      go_meet
      case rel => exact ⟨by rw [if_neg (by omega)], rfl⟩
  case rest =>
  obtain ⟨rfl, rfl⟩ := hcut
  obtain ⟨x, hx⟩ : ∃ x : Int, x = (if m < 0 then 0 else m) := ⟨_, rfl⟩
  rw [← hx] at HMN ⊢
  clear hx
  go_upto_if 10 with fail
  go_cut [2] (fun v2 wc' => v2 = .int .i64 (N : Int) ∧ wc' = wc)
  case first =>
    have hmn := HMN.out
    by_cases h : 64 < x
    · have h1 : decide (64 < x) = true := decide_eq_true h
      rw [if_pos h] at hmn
      have HMM := Aside0.mk hmn
      clear hmn
      go_wp2
      go_meet
      case rel => exact ⟨by rw [← HMM.out], rfl⟩
    · have h1 : decide (64 < x) = false := decide_eq_false h
      rw [if_neg h] at hmn
      have HMM := Aside0.mk hmn
      clear hmn
      go_wp2
      go_meet
      case rel => exact ⟨by rw [← HMM.out], rfl⟩
  case rest =>
  obtain ⟨rfl, rfl⟩ := hcut
  clear HMN
  have hN2 : (N : Int) ≤ 64 := by have := HN.out; omega
  go_wp2
  clear hN2
  go_loopg [6] N (fun kq v6 w' => ∃ (lc : List Bool), v6 = .int .i64 ((kq : Int) - 1) ∧ Aside0 (bputs v kq lc = bputs v N l) ∧ Aside0 (kq ≤ 64 ∧ lc.length + kq ≤ l.length + 64) ∧ Aside0 (BS w' base (fun k => S k ∨ wc.heap.size ≤ k) g lc) ∧ Aside0 (Chg wc w' S))
  case atStart => exact ⟨l, rfl, ⟨rfl⟩, ⟨HN.out, by have := HN.out; omega⟩, HST, ⟨Chg.refl _ _⟩⟩
  case round =>
    clear HST
    obtain ⟨lc, rfl, HE, HK, HST, HC⟩ := hrel
    cases gk with
    | zero =>
      go_wp2
      go_end0
      have e := HE.out
      exact ⟨rfl, by rw [← e]; exact HST.out, HC.out⟩
    | succ j =>
      have hj1 : ((j + 1 : Nat) : Int) - 1 = (j : Int) := by omega
      rw [hj1]
      clear hj1
      obtain ⟨⟨vv, hb, hr⟩, hs, hbg⟩ := HST.out
      obtain ⟨Av, cv, ev⟩ := Kd.R_slice hr
      subst ev
      have hne : some g ≠ (Value.slice Av lc.length cv).ownBlock := fun he => (hr.1 g he.symm).2 rfl
      have z0 : wr.cell? ⟨g, 0, none⟩ = some (.slice Av lc.length cv) := (blk_cell hb 0).trans rfl
      have zf0 := blk_frozen hb 0
      have HBK := Aside0.mk hb
      have HR := Aside0.mk hr
      have HBG := Aside0.mk hbg
      have HNE := Aside0.mk hne
      have hgl := blk_lt hb
      have HGL := Aside0.mk hgl
      have HSZ := Aside0.mk (show base ≤ wr.heap.size by omega)
      have hj0 : (0 : Int) ≤ (j : Int) := by omega
      have hj64 : (j : Int) ≤ 64 := by have := HK.out; omega
      have hju : IntKind.u64.wrap (j : Int) = (j : Int) := by rw [IntKind.wrap_u64]; omega
      clear hb hr hbg hs hgl hne
      go_wp2_with (first | ((with_reducible refine gate_builtin (b := .append) (xs := #[.tmp 21, .tmp 29]) rfl ?_); at_builtin; refine Kd.R_append Kd.bool (w0 := wr) base rfl (.tmp 21) (.tmp 29) 49 4 (.bool false) 1 rfl Try.underlying49 info4 rfl (by decide) (by decide) (.slice Av lc.length cv) lc (Go.bits .and .u64 (IntKind.u64.wrap v / 2 ^ j) 1 == 1) [.bool (Go.bits .and .u64 (IntKind.u64.wrap v / 2 ^ j) 1 == 1)] (fun k => (S k ∨ wc.heap.size ≤ k) ∧ k ≠ g) (fun _ => False) rfl rfl ?aP (fun _ hk => hk.elim) ?aF ?aO ?aB ?aS ?aL ?_; (case aP => exact rfl); (case aB => exact Below.refl _ _); (case aF => exact (fun k hk => ⟨.inr (Nat.le_trans HC.out.kept.1 hk), by have := HGL.out; omega⟩)); (case aO => exact HR.out); (case aS => exact HSZ.out); (case aL => have := HK.out; have := HL.out; omega); intro v1 w1 ho hb hg hat; obtain ⟨A1, c1, e1⟩ := Kd.R_slice ho; subst e1; have hb1 := blk_grown HBK.out hg HNE.out; have HO1 := Aside0.mk ho; have HG1 := Aside0.mk hg; clear z0 zf0; have z0 : w1.cell? ⟨g, 0, none⟩ = some (.slice Av lc.length cv) := (blk_cell hb1 0).trans rfl; have zf0 := blk_frozen hb1 0; have HB1 := Aside0.mk hb1; clear hb1 ho hb hg hat))
      go_roundg j
      case measure => omega
      case rel =>
        have ho := HO1.out
        rw [show (lc ++ [(Go.bits .and .u64 (IntKind.u64.wrap v / 2 ^ j) 1 == 1)]).length = lc.length + 1 by simp] at ho
        refine ⟨lc ++ [Go.bits .and .u64 (IntKind.u64.wrap v / 2 ^ j) 1 == 1], rfl, ⟨HE.out⟩, ⟨?_⟩, ⟨⟨⟨.slice A1 (lc.length + 1) c1, ?_, ?_⟩, .inl HSG.out, HBG.out⟩⟩, ⟨?_⟩⟩
        · have := HK.out
          simp only [List.length_append, List.length_singleton]
          omega
        · exact blk_put HB1.out 0 _ rfl
        · exact Kd.R_far (p := ⟨g, 0, none⟩) ho (fun k hk => hk.2) _
        · exact ((HC.out).grown HG1.out (fun k hk => (HR.out.1 k hk).1)).set (p := ⟨g, 0, none⟩) (.inl HSG.out) _
def rb (B : List Bool) : Nat → List Int
  | 0 => List.replicate ((B.length + 7) / 8) 0
  | i + 1 => if rdOf false B i = true then (rb B i).set (i / 8) (Go.bits .or .u8 (rdOf 0 (rb B i) ((i / 8 : Nat) : Int)) (2 ^ (7 - i % 8) % 256)) else rb B i
theorem rb_len (B : List Bool) : ∀ i, (rb B i).length = (B.length + 7) / 8
  | 0 => List.length_replicate
  | i + 1 => by
    unfold rb
    split
    · rw [List.length_set, rb_len B i]
    · exact rb_len B i
set_option maxHeartbeats 4000000 in
set_option maxRecDepth 100000 in
theorem refbytes (base g : Nat) (S : Nat → Prop) (B : List Bool) (w : World) (hW : BS w base S g B) (hl : B.length ≤ 100000000) :
    Calls Try.prog 47 #[.pointer (some ⟨g, 0, none⟩)] w fun e w' => ∃ v, e = .returned v ∧ (Kd.int .u8).R 5 w' w.heap.size (fun _ => True) v (rb B B.length) ∧ Below w.heap.size w w' := by
  obtain ⟨⟨vv, hb, hr⟩, hs, hbg⟩ := hW
  obtain ⟨Av, cv, ev⟩ := Kd.R_slice hr
  subst ev
  obtain ⟨_, hc, hR⟩ := Kd.R_reads' hr
  have HR := Aside0.mk hR
  have HBK := Aside0.mk hb
  have HL := Aside0.mk hl
  have hgl := blk_lt hb
  have HGL := Aside0.mk hgl
  have z0 : w.cell? ⟨g, 0, none⟩ = some (.slice Av B.length cv) := (blk_cell hb 0).trans rfl
  have hlb : (B.length : Int) ≤ 100000000 := by omega
  have hq0 : 0 ≤ ((B.length : Int) + 7) / 8 := by omega
  clear hb hr hs hbg hc hR hl hgl
  go_enter Try.func47, Try.ntmps47
  go_wp2_with (first | ((with_reducible refine gate_dst (N := 12) rfl ?_); refine Kd.R_make (Kd.int .u8) (w0 := w) w.heap.size 5 rfl (N := 12) rfl 22 (.tmp 11) (.tmp 11) rfl (((B.length : Int) + 7) / 8) rfl rfl Try.underlying22 (.int .u8 0) 1 info5 rfl (by decide) (by decide) 0 (ok := fun _ => True) (okp := fun _ => False) ?hz (fun _ _ => trivial) trivial hq0 ?hl (Below.refl _ _) (Nat.le_refl _) ?_; (case hz => exact rfl); (case hl => have := HL.out; omega); intro v1 w1 ho hb hg hat; have HO := Aside0.mk ho; have HB := Aside0.mk hb; clear ho hb hg hat))
  obtain ⟨A1, c1, e1⟩ := Kd.R_slice HO.out
  subst e1
  rw [List.length_replicate] at HO ⊢
  rw [show (((B.length : Int) + 7) / 8).toNat = (B.length + 7) / 8 by omega] at HO ⊢
  clear hq0
  go_loopg [4] B.length (fun kq v4 w' => ∃ i : Nat, kq + i = B.length ∧ v4 = .int .i64 i ∧ Aside0 ((Kd.int .u8).R 5 w' w.heap.size (fun _ => True) (.slice A1 ((B.length + 7) / 8) c1) (rb B i)) ∧ Aside0 (Below w.heap.size w w'))
  case atStart => exact ⟨0, rfl, rfl, HO, HB⟩
  case round =>
    clear HO HB z0
    obtain ⟨i, hk, rfl, HO, HB⟩ := hrel
    have z0 : wr.cell? ⟨g, 0, none⟩ = some (.slice Av B.length cv) := (blk_cell (blk_below HBK.out HB.out) 0).trans rfl
    by_cases hi : i < B.length
    · obtain ⟨k1, rfl⟩ : ∃ k1, gk = k1 + 1 := ⟨gk - 1, by omega⟩
      have hib : decide ((i : Int) < (B.length : Int)) = true := decide_eq_true (by omega)
      have hiz : (i : Int) < (B.length : Int) := by omega
      obtain ⟨ad, e, hc⟩ := Kd.at_bool (Kd.C_below HR.out HB.out) (i : Int) (by omega) hiz
      subst e
      rw [Int.toNat_natCast] at hc
      have hi0 : (0 : Int) ≤ (i : Int) := by omega
      obtain ⟨b2, cc2, e2, hbb, hbl, _⟩ := Kd.R_form HO.out (by rw [rb_len]; omega)
      injection e2 with e2 _ e3
      subst e2 e3
      have hq : ((i / 8 : Nat) : Int) < (((B.length + 7) / 8 : Nat) : Int) := by omega
      have hq0 : (0 : Int) ≤ ((i / 8 : Nat) : Int) := by omega
      obtain ⟨hcl, hcf⟩ := Kd.R_celln 0 HO.out ((i / 8 : Nat) : Int) hq0 hq
      rw [Int.toNat_natCast] at hcl hcf
      have hq1 : (i : Int) / 8 < (((B.length + 7) / 8 : Nat) : Int) := by omega
      have hq2 : (0 : Int) ≤ (i : Int) / 8 := by omega
      have hq3 : ((i : Int) / 8).toNat = i / 8 := by omega
      have hq4 : i / 8 < (B.length + 7) / 8 := by omega
      obtain ⟨x2, hx2⟩ : ∃ x2, x2 = rdOf 0 (rb B i) ((i / 8 : Nat) : Int) := ⟨_, rfl⟩
      rw [← hx2] at hcl
      have HX2 := Aside0.mk hx2
      have HBB := Aside0.mk hbb
      clear hx2 hbb
      have hne : b2 ≠ g := by have := HBB.out; have := HGL.out; omega
      have hm0 : 0 ≤ 7 - (i : Int) % 8 := by omega
      have hm1 : (7 - (i : Int) % 8).toNat = 7 - i % 8 := by omega
      have hm2 : IntKind.u64.wrap (7 - (i : Int) % 8) = 7 - (i : Int) % 8 := by rw [IntKind.wrap_u64]; omega
      by_cases hx : rdOf false B (i : Int) = true
      · rw [hx] at hc
        have HX := Aside0.mk hx
        clear hx
        go_wp2
        go_roundg k1
        case measure => omega
        case rel =>
          refine ⟨i + 1, by omega, rfl, ⟨?_⟩, ⟨HB.out.setCell (p := ⟨b2, i / 8, none⟩) HBB.out _⟩⟩
          rw [rb, if_pos HX.out, ← HX2.out]
          have hp := Kd.R_putn HO.out ((i / 8 : Nat) : Int) (Go.bits .or .u8 x2 (2 ^ (7 - i % 8) % 256))
          rw [Int.toNat_natCast] at hp
          exact hp
      · rw [Bool.eq_false_iff.2 hx] at hc
        have HX := Aside0.mk hx
        clear hx
        go_wp2
        go_roundg k1
        case measure => omega
        case rel => exact ⟨i + 1, by omega, rfl, ⟨by rw [rb, if_neg HX.out]; exact HO.out⟩, HB⟩
    · obtain rfl : i = B.length := by omega
      have hib : decide (((B.length : Nat) : Int) < (B.length : Int)) = false := decide_eq_false (by omega)
      go_wp2
      go_ret
      exact ⟨_, rfl, HO.out, HB.out⟩
/-- The reference's reader: where its row lies, is in ok. -/
structure BR (W : World) (ok : Nat → Prop) (g : Nat) (B : List Bool) (p : Int) : Prop where
  v : ∃ A c, W.heap[g]? = some (.cells #[.slice A B.length c, .int .i64 p] 52 (0, 0)) ∧ Kd.bool.F W ok A B.length B
  ng : ¬ ok g
theorem BR.chg {W W2 : World} {ok S : Nat → Prop} {g : Nat} {B : List Bool} {p : Int} (h : BR W ok g B p) (hk : Chg W W2 S) (hs : ∀ k, S k → k ≠ g ∧ ¬ ok k) : BR W2 ok g B p := by
  obtain ⟨⟨A, c, hb, hF⟩, hn⟩ := h
  exact ⟨⟨A, c, blk_kept hb hk.kept (fun hS => (hs g hS).1 rfl), Kd.F_kept hF hk.kept (fun k hok hS => (hs k hS).2 hok)⟩, hn⟩
def tbStep (x : Bool) (v : Int) : Int := if x = true then Go.bits .or .u64 (IntKind.u64.wrap (v * 2)) 1 else IntKind.u64.wrap (v * 2)
def takeB (B : List Bool) (p : Nat) : Nat → Int
  | 0 => 0
  | i + 1 => tbStep (rdOf false B ((p + i : Nat) : Int)) (takeB B p i)
theorem refget_bad (g : Nat) (B : List Bool) (p : Nat) (n c : Int) (ok : Nat → Prop) (w : World) (hI : BR w ok g B p) (hl : B.length ≤ 100000000) (hp : p ≤ B.length)
    (hn : (c = 1 ∧ (n < 0 ∨ 64 < n)) ∨ (c = 5 ∧ 0 ≤ n ∧ n ≤ 64 ∧ (B.length : Int) - p < n)) :
    Calls Try.prog 40 #[.pointer (some ⟨g, 0, none⟩), .int .i64 n] w fun e w' => e = .returned (.tuple #[.int .i64 0, .int .i64 c]) ∧ BR w' ok g B p ∧ Chg w w' (fun k => k = g) := by
  obtain ⟨⟨A, cp, hb, hF⟩, hng⟩ := hI
  have HI : Aside0 (BR w ok g B p) := ⟨⟨⟨A, cp, hb, hF⟩, hng⟩⟩
  have z0 : w.cell? ⟨g, 0, none⟩ = some (.slice A B.length cp) := (blk_cell hb 0).trans rfl
  have z1 : w.cell? ⟨g, 1, none⟩ = some (.int .i64 (p : Int)) := (blk_cell hb 1).trans rfl
  have hw : IntKind.i64.wrap ((B.length : Int) - (p : Int)) = (B.length : Int) - (p : Int) := by rw [IntKind.wrap_i64]; omega
  clear hb hF hng hl hp
  rcases hn with ⟨rfl, hn⟩ | ⟨rfl, h0, h64, hn⟩
  · by_cases h : n < 0
    · have h1 : decide (n < 0) = true := decide_eq_true h
      go_enter Try.func40, Try.ntmps40
      go_wp2
      go_ret2
      exact ⟨rfl, HI.out, Chg.refl _ _⟩
    · have h1 : decide (n < 0) = false := decide_eq_false h
      have h2 : decide (64 < n) = true := decide_eq_true (by omega)
      clear h hn
      go_enter Try.func40, Try.ntmps40
      go_wp2
      go_ret2
      exact ⟨rfl, HI.out, Chg.refl _ _⟩
  · have h1 : decide (n < 0) = false := decide_eq_false (by omega)
    have h2 : decide (64 < n) = false := decide_eq_false (by omega)
    have h3 : decide ((B.length : Int) - (p : Int) < n) = true := decide_eq_true hn
    clear h0 h64 hn
    go_enter Try.func40, Try.ntmps40
    go_wp2
    go_quiet (fail)
    go_wp2
    go_ret2
    exact ⟨rfl, HI.out.chg ((Chg.refl w (fun _ => False)).drewN _) (fun _ h => h.elim), (Chg.refl _ _).drewN _⟩
set_option maxHeartbeats 2000000 in
theorem refget_ok (g : Nat) (B : List Bool) (p n : Nat) (ok : Nat → Prop) (w : World) (hI : BR w ok g B p) (hl : B.length ≤ 100000000) (h64 : n ≤ 64) (hn : p + n ≤ B.length) :
    Calls Try.prog 40 #[.pointer (some ⟨g, 0, none⟩), .int .i64 n] w fun e w' => e = .returned (.tuple #[.int .i64 (wrap64 (takeB B p n)), .int .i64 0]) ∧ BR w' ok g B (p + n : Nat) ∧ Chg w w' (fun k => k = g) := by
  have h1 : decide ((n : Int) < 0) = false := decide_eq_false (by omega)
  have h2 : decide (64 < (n : Int)) = false := decide_eq_false (by omega)
  have h3 : decide ((B.length : Int) - (p : Int) < (n : Int)) = false := decide_eq_false (by omega)
  have HI := Aside0.mk hI
  obtain ⟨⟨A, cp, hb, hF⟩, hng⟩ := hI
  have z0 : w.cell? ⟨g, 0, none⟩ = some (.slice A B.length cp) := (blk_cell hb 0).trans rfl
  have z1 : w.cell? ⟨g, 1, none⟩ = some (.int .i64 (p : Int)) := (blk_cell hb 1).trans rfl
  have hw : IntKind.i64.wrap ((B.length : Int) - (p : Int)) = (B.length : Int) - (p : Int) := by rw [IntKind.wrap_i64]; omega
  have HL := Aside0.mk hl
  have H64 := Aside0.mk h64
  have HN := Aside0.mk hn
  clear hl h64 hn hb hF hng
  go_enter Try.func40, Try.ntmps40
  go_wp2
  go_quiet (fail)
  clear hw z0 z1
  go_wp2
  go_loopg [6, 7] n (fun kq v6 v7 w' => ∃ i : Nat, kq + i = n ∧ v7 = .int .i64 i ∧ v6 = .int .u64 (takeB B p i) ∧ Aside0 (BR w' ok g B p) ∧ Aside0 (Chg w w' (fun k => k = g)))
  case atStart => exact ⟨0, by omega, rfl, rfl, ⟨HI.out.chg ((Chg.refl w (fun _ => False)).drewN _) (fun _ h => h.elim)⟩, ⟨(Chg.refl _ _).drewN _⟩⟩
  case round =>
    clear HI
    obtain ⟨i, hk, rfl, rfl, HI, HK⟩ := hrel
    obtain ⟨⟨A, cp, hb, hF⟩, hng⟩ := HI.out
    have z0 : wr.cell? ⟨g, 0, none⟩ = some (.slice A B.length cp) := (blk_cell hb 0).trans rfl
    have z1 : wr.cell? ⟨g, 1, none⟩ = some (.int .i64 (p : Int)) := (blk_cell hb 1).trans rfl
    have zf1 := blk_frozen hb 1
    by_cases hi : i < n
    · obtain ⟨k1, rfl⟩ : ∃ k1, gk = k1 + 1 := ⟨gk - 1, by omega⟩
      have hib : decide ((i : Int) < (n : Int)) = true := decide_eq_true (by omega)
      have hlt : ((p + i : Nat) : Int) < B.length := by have := HN.out; omega
      obtain ⟨ad, e, hc⟩ := Kd.at_bool (Kd.F_now hF) ((p + i : Nat) : Int) (by omega) hlt
      subst e
      rw [Int.toNat_natCast] at hc
      obtain ⟨x, hx⟩ : ∃ x, x = rdOf false B ((p + i : Nat) : Int) := ⟨_, rfl⟩
      rw [← hx] at hc
      have HX := Aside0.mk hx
      have hz0 : (0 : Int) ≤ (p : Int) + (i : Int) := by omega
      have hz1 : (p : Int) + (i : Int) < (B.length : Int) := by omega
      have hz2 : p + i < B.length := by omega
      have hz3 : IntKind.i64.wrap ((p : Int) + (i : Int)) = (p : Int) + (i : Int) := by rw [IntKind.wrap_i64]; have := HL.out; omega
      have hz4 : ((p : Int) + (i : Int)).toNat = p + i := by omega
      clear hb hF hng hx
      cases x with
      | true =>
        go_wp2
        go_quiet (fail)
        go_wp2
        go_roundg k1
        case measure => omega
        case rel =>
          refine ⟨i + 1, by omega, by first | rfl | exact congrArg (Value.int .i64) (by have := H64.out; unfold wrap64; omega), ?_, ⟨HI.out.chg ((Chg.refl _ (fun _ => False)).drewN _) (fun _ h => h.elim)⟩, ⟨HK.out.drewN _⟩⟩
          show Value.int .u64 _ = Value.int .u64 (tbStep (rdOf false B ((p + i : Nat) : Int)) (takeB B p i))
          rw [← HX.out]
          rfl
      | false =>
        go_wp2
        go_quiet (fail)
        go_wp2
        go_roundg k1
        case measure => omega
        case rel =>
          refine ⟨i + 1, by omega, by first | rfl | exact congrArg (Value.int .i64) (by have := H64.out; unfold wrap64; omega), ?_, ⟨HI.out.chg ((Chg.refl _ (fun _ => False)).drewN _) (fun _ h => h.elim)⟩, ⟨HK.out.drewN _⟩⟩
          show Value.int .u64 _ = Value.int .u64 (tbStep (rdOf false B ((p + i : Nat) : Int)) (takeB B p i))
          rw [← HX.out]
          rfl
    · obtain rfl : i = n := by omega
      have hib : decide (((i : Nat) : Int) < (i : Int)) = false := decide_eq_false (by omega)
      have HBK := Aside0.mk hb
      have HF := Aside0.mk hF
      have HNG := Aside0.mk hng
      clear hb hF hng
      go_wp2
      go_ret2
      refine ⟨rfl, ?_, HK.out.set (p := ⟨g, 1, none⟩) (.inl rfl) _⟩
      rw [show wrap64 ((p : Int) + (i : Int)) = ((p + i : Nat) : Int) by have := HN.out; have := HL.out; unfold wrap64; omega]
      exact ⟨⟨_, _, blk_put HBK.out 1 _ rfl, Kd.F_far (p := ⟨g, 1, none⟩) HF.out (fun k hk he => HNG.out (show ok g from by have e : k = g := he; rw [← e]; exact hk)) _⟩, HNG.out⟩
end Go.Proofs.Ytjilnpbgclnecaa.XBits
