/- A part of the proofs about the head: see the theorems' own lines. -/
import Derived.Test.YtcgocdhffcnleaaXHdH
import Derived.Outline
namespace Go.Proofs.Ytcgocdhffcnleaa.PHead
open Go Go.RowKit Go.Proofs.YtcgocdhffcnleaaW.PrintWords Go.Proofs.YtcgocdhffcnleaaW.PrintLast Go.Proofs.YtcgocdhffcnleaaW.PrintMore Go.Proofs.Ytcgocdhffcnleaa.XB Go.Proofs.Ytcgocdhffcnleaa.PHeadPlays Go.Proofs.Ytcgocdhffcnleaa.XH
set_option linter.unusedVariables false
set_option linter.unusedSimpArgs false
/-! ### the asker -/
namespace Hd
open Go.Maps
def errV (c : Int) : Value := .iface 180 (.agg #[.int .i64 c])
structure NW (D : DataW Unit) (L0 L : A) : Prop where
  hit : ∀ m, Hl.made m → Maps.has D (key m) = true → ∃ xs, find L m = some xs ∧ ∀ z, D.atKey (key m) z = .lit (.int .i64 (lastT xs))
  miss : ∀ m, Hl.made m → Maps.has D (key m) = false → find L m = find L0 m
  tidy : Maps.Tidy D
theorem NW.step {D : DataW Unit} {L0 L : A} (h : NW D L0 L) {m : List S53} (hm : Hl.made m) (xs : List S44) : NW (D.put (key m) (.lit (.int .i64 (lastT xs)))) L0 (setA L m xs) := by
  refine ⟨fun k hk hh => ?_, fun k hk hh => ?_, h.tidy.put (key_isKey m) _⟩
  · by_cases e : k = m
    · subst e
      exact ⟨xs, find_setA_same, fun z => Maps.atKey_put_same h.tidy.isMap (key_isKey k) _ z⟩
    · have hne : key k ≠ key m := fun h2 => e (key_inj hk hm h2)
      rw [Maps.has_put_other hne] at hh
      obtain ⟨ys, h1, h2⟩ := h.hit k hk hh
      exact ⟨ys, by rw [find_setA_other e]; exact h1, fun z => by rw [Maps.atKey_put_other hne]; exact h2 z⟩
  · by_cases e : k = m
    · subst e
      rw [Maps.has_put_same h.tidy.isMap (key_isKey k)] at hh
      cases hh
    · have hne : key k ≠ key m := fun h2 => e (key_inj hk hm h2)
      rw [Maps.has_put_other hne] at hh
      rw [find_setA_other e]
      exact h.miss k hk hh
/-- The asker behind j rows. -/
structure AS (w0 : World) (hb ab nb : Nat) (low : Int) (L0 L : A) (j : Nat) (D : DataW Unit) (W : World) : Prop where
  lo : w0.heap.size ≤ ab ∧ w0.heap.size ≤ nb
  blk : W.heap[ab]? = some (.cells #[.pointer (some ⟨hb, 0, none⟩), .map (some nb), .int .i64 ((L.length : Int) - (L0.length : Int)), .int .i64 low] 184 (0, 0))
  map : W.ownsMap Try.prog 9 (plainElem Try.prog 3) nb j D
  nw : NW D L0 L
  ok : Ok L
  mono : L0.length ≤ L.length
  below : Below w0.heap.size w0 W
theorem AS.step {w0 : World} {hb ab nb j : Nat} {low : Int} {L0 L : A} {D : DataW Unit} {W W' : World} (h : AS w0 hb ab nb low L0 L j D W) (hbb : Below W.heap.size W W') : AS w0 hb ab nb low L0 L j D W' := by
  obtain ⟨es, clock, hm, r⟩ := h.map
  exact ⟨h.lo, blk_below h.blk hbb, ⟨es, clock, blk_below hm hbb, r⟩, h.nw, h.ok, h.mono, below_step h.below hbb⟩
theorem len_of {base hb mb : Nat} {win : Int} {S : List Ent} {W : World} (h : HR base hb mb win S W) (n : Nat) (ty : TypeId) : (Builtin.len_ #[113] ty #[.map (some mb)]).run Try.prog (W.drewN n) = .ok (.int .i64 (S.length : Nat)) (W.drewN n) := by
  obtain ⟨D, hm, hD⟩ := (h.below (pw_below_drewN (Below.refl _ _) n)).map
  have := hm.len Try.underlying113 ty
  rw [hD.size] at this
  exact this
end Hd
end Go.Proofs.Ytcgocdhffcnleaa.PHead
