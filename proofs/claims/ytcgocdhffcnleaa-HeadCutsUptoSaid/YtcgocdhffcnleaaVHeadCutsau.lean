/- Parts of the proof of the law's row, put together: see the theorems' own lines. -/
import Derived.Test.YtcgocdhffcnleaaVHeadCutsat
import Derived.Maps.OwnSet
import Derived.Maps.OwnOps
import Derived.Maps.RangeWalk
import Derived.Maps.Ext
import Derived.WalkLawsBesides
import Derived.Outline
/- A part of the proofs about the head: see the theorems' own lines. -/
namespace Go.Proofs.Ytcgocdhffcnleaa.PHead
open Go Go.RowKit Go.Proofs.YtcgocdhffcnleaaW.PrintWords Go.Proofs.YtcgocdhffcnleaaW.PrintLast Go.Proofs.YtcgocdhffcnleaaW.PrintMore Go.Proofs.Ytcgocdhffcnleaa.XB Go.Proofs.Ytcgocdhffcnleaa.PHeadPlays
set_option linter.unusedVariables false
set_option linter.unusedSimpArgs false
/-! ### the head in memory -/
open Go.Proofs.Ytcgocdhffcnleaa.XH
namespace Hd
/-- How a pointer reads in the head's map: by its block's number. -/
def RP : Value → Option (DataW Unit × List MemPlace)
  | .pointer (some ⟨g, 0, none⟩) => some (.lit (.int .i64 g), [])
  | .pointer none => some (.lit (.int .i64 (-1)), [])
  | _ => none
theorem RP_nil : RP (.pointer none) = some (.lit (.int .i64 (-1)), []) := rfl
theorem RP_ptr (g : Nat) : RP (.pointer (some ⟨g, 0, none⟩)) = some (.lit (.int .i64 g), []) := rfl
theorem RP_shape {v : Value} {y : DataW Unit × List MemPlace} (h : RP v = some y) : v = .pointer none ∨ ∃ g : Nat, v = .pointer (some ⟨g, 0, none⟩) := by
  unfold RP at h
  split at h
  · exact .inr ⟨_, rfl⟩
  · exact .inl rfl
  · cases h
theorem RP_at {v : Value} {g : Nat} {ps : List MemPlace} (h : RP v = some (.lit (.int .i64 g), ps)) : v = .pointer (some ⟨g, 0, none⟩) := by
  rcases RP_shape h with rfl | ⟨k, rfl⟩
  · rw [RP_nil] at h
    injection h with h
    injection h with h _
    injection h with h
    injection h with _ h
    omega
  · rw [RP_ptr] at h
    injection h with h
    injection h with h _
    injection h with h
    injection h with _ h
    have : k = g := by omega
    rw [this]
theorem RP_none {v : Value} {ps : List MemPlace} (h : RP v = some (.lit (.int .i64 (-1)), ps)) : v = .pointer none := by
  rcases RP_shape h with rfl | ⟨k, rfl⟩
  · rfl
  · rw [RP_ptr] at h
    injection h with h
    injection h with h _
    injection h with h
    injection h with _ h
    omega
structure Ent where
  ls : List S53
  xs : List S44
  g : Nat
  lv : Value
  sv : Value
def abs (S : List Ent) : A := S.map fun e => (e.ls, e.xs)
def key (m : List S53) : Lit := .string (Hl.txtB m)
theorem key_inj {l m : List S53} (hl : Hl.made l) (hm : Hl.made m) (h : key l = key m) : l = m := by
  unfold key at h
  injection h with h
  exact Hl.txtB_inj hl hm h
theorem key_isKey (m : List S53) : WideAt.IsKeyLit (key m) := by simp [WideAt.IsKeyLit, key]
structure MapIs (D : DataW Unit) (S : List Ent) : Prop where
  hit : ∀ e ∈ S, Maps.has D (key e.ls) = true ∧ ∀ z, D.atKey (key e.ls) z = .lit (.int .i64 e.g)
  size : Maps.size D = S.length
  keys : ∀ kl, Maps.has D kl = true → ∃ e ∈ S, kl = key e.ls
structure EntOk (base : Nat) (W : World) (e : Ent) : Prop where
  lo : base ≤ e.g
  blk : W.heap[e.g]? = some (.cells #[e.lv, e.sv] 120 (0, 0))
  lab : k53.R 53 W base (fun _ => True) e.lv e.ls
  sam : k44.R 44 W base (fun _ => True) e.sv e.xs
structure HR (base hb mb : Nat) (win : Int) (S : List Ent) (W : World) : Prop where
  lo : base ≤ hb ∧ base ≤ mb
  wok : 0 ≤ win ∧ win ≤ maxT
  head : W.heap[hb]? = some (.cells #[.int .i64 win, .map (some mb), .int .i64 (cnt (abs S) : Nat)] 115 (0, 0))
  map : ∃ D, W.ownsMap Try.prog 9 RP mb S.length D ∧ MapIs D S
  ent : ∀ e ∈ S, EntOk base W e
  apart : S.Pairwise fun a b => a.g ≠ b.g ∧ ∀ k, a.sv.ownBlock = some k → b.sv.ownBlock ≠ some k
  ok : Ok (abs S)
/-- The head's own blocks. -/
def Own (hb mb : Nat) (S : List Ent) (k : Nat) : Prop := k = hb ∨ k = mb ∨ ∃ e ∈ S, k = e.g ∨ e.lv.ownBlock = some k ∨ e.sv.ownBlock = some k
theorem R_own_only53 {W : World} {base : Nat} {v : Value} {xs : List S53} (h : k53.R 53 W base (fun _ => True) v xs) : k53.R 53 W base (fun k => v.ownBlock = some k) v xs := by
  obtain ⟨_, inner, ho, hr⟩ := h
  exact ⟨fun k hk => hk, inner, ho, hr.imp_ (fun p c hp => by have := k53_openM hp; subst this; exact k53_mkM _ _ _ _)⟩
theorem R_own_only44 {W : World} {base : Nat} {v : Value} {xs : List S44} (h : k44.R 44 W base (fun _ => True) v xs) : k44.R 44 W base (fun k => v.ownBlock = some k) v xs := by
  obtain ⟨_, inner, ho, hr⟩ := h
  exact ⟨fun k hk => hk, inner, ho, hr.imp_ (fun p c hp => by have := k44_openM hp; subst this; exact k44_mkM _ _ _ _)⟩
theorem R53_move {W W' : World} {base : Nat} {v : Value} {xs : List S53} (h : k53.R 53 W base (fun _ => True) v xs) (hm : ∀ k, v.ownBlock = some k → W'.heap[k]? = W.heap[k]?) : k53.R 53 W' base (fun _ => True) v xs :=
  Kd.R_mono (Kd.R_move (R_own_only53 h) hm) (fun _ _ => trivial)
theorem R44_move {W W' : World} {base : Nat} {v : Value} {xs : List S44} (h : k44.R 44 W base (fun _ => True) v xs) (hm : ∀ k, v.ownBlock = some k → W'.heap[k]? = W.heap[k]?) : k44.R 44 W' base (fun _ => True) v xs :=
  Kd.R_mono (Kd.R_move (R_own_only44 h) hm) (fun _ _ => trivial)
theorem EntOk.move {base : Nat} {W W' : World} {e : Ent} (h : EntOk base W e) (hm : ∀ k, k = e.g ∨ e.lv.ownBlock = some k ∨ e.sv.ownBlock = some k → W'.heap[k]? = W.heap[k]?) : EntOk base W' e :=
  ⟨h.lo, (hm _ (.inl rfl)).trans h.blk, R53_move h.lab (fun k hk => hm k (.inr (.inl hk))), R44_move h.sam (fun k hk => hm k (.inr (.inr hk)))⟩
theorem HR.move {base hb mb : Nat} {win : Int} {S : List Ent} {W W' : World} (h : HR base hb mb win S W) (hm : ∀ k, Own hb mb S k → W'.heap[k]? = W.heap[k]?) : HR base hb mb win S W' := by
  refine ⟨h.lo, h.wok, (hm _ (.inl rfl)).trans h.head, ?_, fun e he => (h.ent e he).move (fun k hk => hm k (.inr (.inr ⟨e, he, hk⟩))), h.apart, h.ok⟩
  obtain ⟨D, ⟨es, clock, hb1, r⟩, hD⟩ := h.map
  exact ⟨D, ⟨es, clock, (hm _ (.inr (.inl rfl))).trans hb1, r⟩, hD⟩
theorem EntOk.lt {base : Nat} {W : World} {e : Ent} (h : EntOk base W e) : ∀ k, k = e.g ∨ e.lv.ownBlock = some k ∨ e.sv.ownBlock = some k → base ≤ k ∧ k < W.heap.size := by
  rintro k (rfl | hk | hk)
  · exact ⟨h.lo, blk_lt h.blk⟩
  · obtain ⟨inner, ho⟩ := Kd.R_own h.lab
    exact ⟨own_base ho k hk, own_lt ho k hk⟩
  · obtain ⟨inner, ho⟩ := Kd.R_own h.sam
    exact ⟨own_base ho k hk, own_lt ho k hk⟩
theorem HR.lt {base hb mb : Nat} {win : Int} {S : List Ent} {W : World} (h : HR base hb mb win S W) : ∀ k, Own hb mb S k → base ≤ k ∧ k < W.heap.size := by
  rintro k (rfl | rfl | ⟨e, he, hk⟩)
  · exact ⟨h.lo.1, blk_lt h.head⟩
  · obtain ⟨D, hm, _⟩ := h.map
    exact ⟨h.lo.2, hm.lt⟩
  · exact (h.ent e he).lt k hk
theorem HR.below {base hb mb : Nat} {win : Int} {S : List Ent} {W W' : World} (h : HR base hb mb win S W) (hB : Below W.heap.size W W') : HR base hb mb win S W' :=
  h.move (fun k hk => hB.block k (h.lt k hk).2)
/-- What a write leaves: nothing else has turned; what is the head's now was the head's, or is new. -/
structure Fr (O O' : Nat → Prop) (W W' : World) : Prop where
  os : W'.os = W.os
  tape : W'.tape = W.tape
  output : W'.output = W.output
  size : W.heap.size ≤ W'.heap.size
  blk : ∀ k, k < W.heap.size → ¬ O k → W'.heap[k]? = W.heap[k]?
  new : ∀ k, O' k → O k ∨ W.heap.size ≤ k
theorem Fr.refl (O : Nat → Prop) (W : World) : Fr O O W W := ⟨rfl, rfl, rfl, Nat.le_refl _, fun _ _ _ => rfl, fun _ h => .inl h⟩
theorem Fr.trans {O O1 O2 : Nat → Prop} {W W1 W2 : World} (h : Fr O O1 W W1) (k : Fr O1 O2 W1 W2) : Fr O O2 W W2 :=
  ⟨k.os.trans h.os, k.tape.trans h.tape, k.output.trans h.output, Nat.le_trans h.size k.size,
   fun i hi hn => (k.blk i (Nat.lt_of_lt_of_le hi h.size) (fun ho => by rcases h.new i ho with h1 | h1; exact hn h1; omega)).trans (h.blk i hi hn),
   fun i hi => by rcases k.new i hi with h1 | h1; exact h.new i h1; exact .inr (Nat.le_trans h.size h1)⟩
theorem Fr.of_below {O : Nat → Prop} {W W' : World} (h : Below W.heap.size W W') : Fr O O W W' := ⟨h.os, h.tape, h.output, h.size, fun k hk _ => h.block k hk, fun _ h => .inl h⟩
theorem Fr.below {O O' : Nat → Prop} {W W' : World} {B : Nat} (h : Fr O O' W W') (hO : ∀ k, O k → B ≤ k) (hB : B ≤ W.heap.size) : Below B W W' :=
  ⟨h.os, h.tape, h.output, h.size, fun k hk => h.blk k (Nat.lt_of_lt_of_le hk hB) (fun ho => by have := hO k ho; omega)⟩
theorem Fr.mono {O O' P' : Nat → Prop} {W W' : World} (h : Fr O O' W W') (hp : ∀ k, P' k → O' k ∨ W.heap.size ≤ k) : Fr O P' W W' :=
  ⟨h.os, h.tape, h.output, h.size, h.blk, fun k hk => by rcases hp k hk with h1 | h1; exact h.new k h1; exact .inr h1⟩
end Hd
set_option maxHeartbeats 4000000 in
set_option maxRecDepth 100000 in
theorem head_New.calls (a : Int) (w : World) : Calls Try.prog 22 #[.int .i64 a] w fun e w' => ∃ hb mb, e = .returned (.pointer (some ⟨hb, 0, none⟩)) ∧ Hd.HR w.heap.size hb mb (min (max 0 a) 9007199254740992) [] w' ∧ Below w.heap.size w w' := by
  have hmm := @run_makeMap Try.prog
  go_enter Try.func22, Try.ntmps22
  go_wp2
  go_ret
  refine ⟨w.heap.size + 1, w.heap.size, rfl, ⟨⟨Nat.le_succ _, Nat.le_refl _⟩, ?_, ?_, ?_, (fun e he => by cases he), List.Pairwise.nil, ?_⟩, below_alloc (below_alloc (Below.refl _ _) _) _⟩
  · unfold Hd.maxT; omega
  · have := blk_new (w.alloc (.map #[] 0)) (.cells #[.int .i64 (min (max 0 a) 9007199254740992), .map (some w.heap.size), .int .i64 0] 115)
    rw [World.size_alloc] at this
    exact this
  · exact ⟨.map [], (World.ownsMap_made w Try.prog 9 Hd.RP).alloc _, ⟨(fun e he => by cases he), rfl, (fun kl h => by cases h)⟩⟩
  · exact ⟨List.Pairwise.nil, (fun p hp => by cases hp), (fun p hp => by cases hp), (fun p hp => by cases hp), (fun p hp => by cases hp), Nat.zero_le _⟩
set_option maxHeartbeats 4000000 in
set_option maxRecDepth 100000 in
theorem head_Count.calls {base hb mb : Nat} {win : Int} {S : List Hd.Ent} {W : World} (h : Hd.HR base hb mb win S W) : Calls Try.prog 30 #[.pointer (some ⟨hb, 0, none⟩)] W fun e w' => e = .returned (.int .i64 (Hd.cnt (Hd.abs S) : Nat)) ∧ w' = W := by
  have z2 := (blk_cell h.head 2).trans rfl
  obtain ⟨c, hc⟩ : ∃ c : Int, c = (Hd.cnt (Hd.abs S) : Nat) := ⟨_, rfl⟩
  rw [← hc] at z2 ⊢
  clear hc h
  go_enter Try.func30, Try.ntmps30
  go_wp2
  go_ret
  exact ⟨rfl, rfl⟩
end Go.Proofs.Ytcgocdhffcnleaa.PHead
