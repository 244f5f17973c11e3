/- Parts of the proof of the law's row, put together: see the theorems' own lines. -/
import Derived.Test.YtcgocdhffcnleaaVHeadCutsaa
import Derived.Test.YtcgocdhffcnleaaVHeadCutsac
import Derived.Maps.OwnSet
import Derived.Maps.OwnOps
/- Small lemmas of the walks that were proved by hand: what stays where one block alone has turned, and a region's world under a name of its own. -/
set_option linter.unusedVariables false
set_option linter.unusedSimpArgs false
namespace Go.Proofs.Ytcgocdhffcnleaa.XH
open Go Go.RowKit Go.Proofs.YtcgocdhffcnleaaW.PrintWords

/-- Of the blocks that w had block g alone may have turned. -/
def Only (g : Nat) (w w1 : World) : Prop := ∀ k, k < w.heap.size → k ≠ g → w1.heap[k]? = w.heap[k]?
theorem Only.refl (g : Nat) (w : World) : Only g w w := fun _ _ _ => rfl
theorem Only.set {g : Nat} {w w1 : World} (h : Only g w w1) (j : Nat) (u : Value) : Only g w (w1.setCell ⟨g, j, none⟩ u) :=
  fun k hk hne => (Below.heap_setCell w1 ⟨g, j, none⟩ u k hne).trans (h k hk hne)
theorem Only.blk {g g' : Nat} {w w1 : World} (h : Only g w w1) {o : Obj} (hb : w.heap[g']? = some o) (hne : g' ≠ g) : w1.heap[g']? = some o := (h g' (blk_lt hb) hne).trans hb
theorem Only.R {α : Type} {d : Kd α} {e g t base : Nat} {w w1 : World} {ok : Nat → Prop} {v : Value} {xs : List α} {cs : Array Value} (h : Only g w w1)
    (hr : d.R e w base ok v xs) (hb : w.heap[g]? = some (.cells cs t (0, 0))) (ht : ∀ q, q ∈ e :: d.E → q ≠ t) : d.R e w1 base ok v xs :=
  Kd.R_mono (Kd.R_step (Kd.R_types hr hb ht) (fun k hk hl => h k hl hk.2)) (fun _ hk => hk.1)
theorem Only.map {H : Type} {P : Program} {k : TypeId} {Rr : Value → Option (DataW H × List MemPlace)} {b n g : Nat} {D : DataW H} {w w1 : World} (h : Only g w w1)
    (hm : w.ownsMap P k Rr b n D) (hne : b ≠ g) : w1.ownsMap P k Rr b n D := by
  obtain ⟨es, clock, hb, r⟩ := hm
  exact ⟨es, clock, h.blk hb hne, r⟩
theorem map_below {H : Type} {P : Program} {k : TypeId} {Rr : Value → Option (DataW H × List MemPlace)} {b n : Nat} {D : DataW H} {w w1 : World}
    (hm : w.ownsMap P k Rr b n D) (hb : Below w.heap.size w w1) : w1.ownsMap P k Rr b n D := by
  obtain ⟨es, clock, hm, r⟩ := hm
  exact ⟨es, clock, blk_below hm hb, r⟩
theorem cwp_world {P : Program} {c : Code} {Q : Exit → Act → World → Prop} {a : Act} {W : World} (h : ∀ W', W' = W → c.wp P Q a W') : c.wp P Q a W := h W rfl
/-- A cut past the length, within the capacity. -/
theorem cut_upto {P : Program} (t e : TypeId) (kh : IntKind) {i : TypeInfo} (ht : P.underlying t = some (.slice e)) (hi : P.info? e = some i) (A : Option Addr) (n c : Nat) (j : Int) (h0 : 0 ≤ j) (hm : j ≤ c) :
    ∀ W : World, (Instr.slice t (.slice A n c) none (some (.int kh j)) none).run P W = .ok (.slice A j.toNat c) W := by
  intro W
  have hel : P.elem t = e := by simp [Program.elem, ht]
  have hu : P.underlying t = some (.slice (P.elem t)) := by rw [hel]; exact ht
  have ha : (A.map fun x => x.add 0) = A := by cases A <;> simp [Addr.add]
  rw [run_slice_h W t A n c hu kh j h0 hm, hel]
  simp [sizeOf, typeInfo, hi, sliced, Result.andThen, ha]
section
variable {P : Program} {ops : Array Oper} {rest : List Oper} {a : Act} {Q : Exit → Act → World → Prop} {W : World}
end
/-! What the map of manifest.Swap holds: how often each number stands in a row. -/
namespace SwapMap
open Go.Maps
/-- The map after the numbers of l. -/
def cmap : List Int → DataW Unit
  | [] => .map []
  | x :: l => (cmap l).put (.int .i64 x) (.lit (.int .i64 ((l.count x : Nat) + 1 : Int)))
def dist : List Int → Nat
  | [] => 0
  | x :: l => if l.contains x = true then dist l else dist l + 1
end SwapMap
end Go.Proofs.Ytcgocdhffcnleaa.XH
