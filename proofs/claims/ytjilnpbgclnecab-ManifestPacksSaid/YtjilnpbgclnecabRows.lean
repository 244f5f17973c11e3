/-
  No cell of these rows narrows 'for every input' (looked for: loops, veiled, ifaces, maps, wideKeys, modest, calm, conditions, laid).
  DERIVED. THE GIVEN ROWS OF THIS SEAT. 10 by the template 'for every input the law returns true; each argument reads behind the call as it read before'; 0 by the template 'total and deterministic' (their statements: YtjilnpbgclnecabTotals.lean).
  GIVEN WITH THE SEED: the statements are not yours to turn. If you find one false, say at which input.
  Laid BY PROGRAM, IN A SANDBOX (cutbox-rows.mjs): the forced cells as the released guide's own fill.sh prints them over the translation a50bab74f1c3c54c… (all of the seat's roots in one cut). By AI agents, Wed Nov 11 2026. No macro, syntax, notation, axiom, sorry.
-/
import Derived.Test.YtjilnpbgclnecabChecked
import GoSem.Claim
import GoSem.ClaimJoined
import GoSem.ClaimMapViews
import Derived.JoinedTies
import Derived.KernelRfl
namespace Go.Proofs.Ytjilnpbgclnecab
/- THE CELL 'sum', in the pinned program and in every row, IS THE sha256 OF THE DUMP (.gsa) THAT YtjilnpbgclnecabProg.lean LOADS. Nothing in Lean hashes anything: it is a label: what it is worth is what the hold of that sum in a sandbox is worth. -/
noncomputable def Try.pinned : Pinned := { name := "ytjilnpbgclnecab", sum := "a50bab74f1c3c54c3035c383cdbfbced12f182687f1065deeef7a9e441150c8c", checked := Try.checked }
namespace Rows
def none {H : Type} : Left H := { results := [], args := [] }

/-- 'lysimeterlaw9.FrameGets': WHATEVER THE INPUT: true; the input reads as it did. -/
def frameGetsSpec : ChangeSpec := { name := "frameGets", fn := fun _ => fun
  | [d] => { results := [.lit (.bool true)], args := [d] }
  | _ => none }
def frameGetsRow : OpenClaim := { program := "ytjilnpbgclnecab", sum := "a50bab74f1c3c54c3035c383cdbfbced12f182687f1065deeef7a9e441150c8c", func := "lysimeter/lysimeterlaw9.FrameGets", spec := "frameGets", unfollowed := true, recurses := true, apart := false }
def FrameGetsSaid : Prop := frameGetsRow.holds Try.pinned (OpenSpec.ofChange frameGetsSpec)

/-- ITS FALSE NEIGHBOUR: 'it returns false'. Refute it at one input. -/
def frameGetsWrong : ChangeSpec := { name := "frameGets", fn := fun _ => fun
  | [d] => { results := [.lit (.bool false)], args := [d] }
  | _ => none }
def FrameGetsWrongFalsely : Prop := frameGetsRow.holds Try.pinned (OpenSpec.ofChange frameGetsWrong)

/-- 'lysimeterlaw14.PostingsSets': WHATEVER THE INPUT: true; the input reads as it did. -/
def postingsSetsSpec : ChangeSpec := { name := "postingsSets", fn := fun _ => fun
  | [d1, d2] => { results := [.lit (.bool true)], args := [d1, d2] }
  | _ => none }
def postingsSetsRow : OpenClaim := { program := "ytjilnpbgclnecab", sum := "a50bab74f1c3c54c3035c383cdbfbced12f182687f1065deeef7a9e441150c8c", func := "lysimeter/lysimeterlaw14.PostingsSets", spec := "postingsSets", unfollowed := true, recurses := true, apart := false }
def PostingsSetsSaid : Prop := postingsSetsRow.holds Try.pinned (OpenSpec.ofChange postingsSetsSpec)

/-- ITS FALSE NEIGHBOUR: 'it returns false'. Refute it at one input. -/
def postingsSetsWrong : ChangeSpec := { name := "postingsSets", fn := fun _ => fun
  | [d1, d2] => { results := [.lit (.bool false)], args := [d1, d2] }
  | _ => none }
def PostingsSetsWrongFalsely : Prop := postingsSetsRow.holds Try.pinned (OpenSpec.ofChange postingsSetsWrong)

/-- 'lysimeterlaw14.PostingsLaws': WHATEVER THE INPUT: true; the input reads as it did. -/
def postingsLawsSpec : ChangeSpec := { name := "postingsLaws", fn := fun _ => fun
  | [d1, d2, d3] => { results := [.lit (.bool true)], args := [d1, d2, d3] }
  | _ => none }
def postingsLawsRow : OpenClaim := { program := "ytjilnpbgclnecab", sum := "a50bab74f1c3c54c3035c383cdbfbced12f182687f1065deeef7a9e441150c8c", func := "lysimeter/lysimeterlaw14.PostingsLaws", spec := "postingsLaws", unfollowed := true, recurses := true, apart := false }
def PostingsLawsSaid : Prop := postingsLawsRow.holds Try.pinned (OpenSpec.ofChange postingsLawsSpec)

/-- ITS FALSE NEIGHBOUR: 'it returns false'. Refute it at one input. -/
def postingsLawsWrong : ChangeSpec := { name := "postingsLaws", fn := fun _ => fun
  | [d1, d2, d3] => { results := [.lit (.bool false)], args := [d1, d2, d3] }
  | _ => none }
def PostingsLawsWrongFalsely : Prop := postingsLawsRow.holds Try.pinned (OpenSpec.ofChange postingsLawsWrong)

/-- 'lysimeterlaw9.FrameRows': WHATEVER THE INPUT: true; the input reads as it did. -/
def frameRowsSpec : ChangeSpec := { name := "frameRows", fn := fun _ => fun
  | [d1, d2] => { results := [.lit (.bool true)], args := [d1, d2] }
  | _ => none }
def frameRowsRow : OpenClaim := { program := "ytjilnpbgclnecab", sum := "a50bab74f1c3c54c3035c383cdbfbced12f182687f1065deeef7a9e441150c8c", func := "lysimeter/lysimeterlaw9.FrameRows", spec := "frameRows", unfollowed := true, recurses := true, apart := false }
def FrameRowsSaid : Prop := frameRowsRow.holds Try.pinned (OpenSpec.ofChange frameRowsSpec)

/-- ITS FALSE NEIGHBOUR: 'it returns false'. Refute it at one input. -/
def frameRowsWrong : ChangeSpec := { name := "frameRows", fn := fun _ => fun
  | [d1, d2] => { results := [.lit (.bool false)], args := [d1, d2] }
  | _ => none }
def FrameRowsWrongFalsely : Prop := frameRowsRow.holds Try.pinned (OpenSpec.ofChange frameRowsWrong)

/-- 'lysimeterlaw14.PostingsAll': WHATEVER THE INPUT: true; the input reads as it did. -/
def postingsAllSpec : ChangeSpec := { name := "postingsAll", fn := fun _ => fun
  | [d] => { results := [.lit (.bool true)], args := [d] }
  | _ => none }
def postingsAllRow : OpenClaim := { program := "ytjilnpbgclnecab", sum := "a50bab74f1c3c54c3035c383cdbfbced12f182687f1065deeef7a9e441150c8c", func := "lysimeter/lysimeterlaw14.PostingsAll", spec := "postingsAll", unfollowed := true, recurses := true, apart := false }
def PostingsAllSaid : Prop := postingsAllRow.holds Try.pinned (OpenSpec.ofChange postingsAllSpec)

/-- ITS FALSE NEIGHBOUR: 'it returns false'. Refute it at one input. -/
def postingsAllWrong : ChangeSpec := { name := "postingsAll", fn := fun _ => fun
  | [d] => { results := [.lit (.bool false)], args := [d] }
  | _ => none }
def PostingsAllWrongFalsely : Prop := postingsAllRow.holds Try.pinned (OpenSpec.ofChange postingsAllWrong)

/-- 'lysimeterlaw17.ManifestTurns': WHATEVER THE INPUT: true; the input reads as it did. -/
def manifestTurnsSpec : ChangeSpec := { name := "manifestTurns", fn := fun _ => fun
  | [d1, d2, d3, d4, d5] => { results := [.lit (.bool true)], args := [d1, d2, d3, d4, d5] }
  | _ => none }
def manifestTurnsRow : OpenClaim := { program := "ytjilnpbgclnecab", sum := "a50bab74f1c3c54c3035c383cdbfbced12f182687f1065deeef7a9e441150c8c", func := "lysimeter/lysimeterlaw17.ManifestTurns", spec := "manifestTurns", apart := false }
def ManifestTurnsSaid : Prop := manifestTurnsRow.holds Try.pinned (OpenSpec.ofChange manifestTurnsSpec)

/-- ITS FALSE NEIGHBOUR: 'it returns false'. Refute it at one input. -/
def manifestTurnsWrong : ChangeSpec := { name := "manifestTurns", fn := fun _ => fun
  | [d1, d2, d3, d4, d5] => { results := [.lit (.bool false)], args := [d1, d2, d3, d4, d5] }
  | _ => none }
def ManifestTurnsWrongFalsely : Prop := manifestTurnsRow.holds Try.pinned (OpenSpec.ofChange manifestTurnsWrong)

/-- 'lysimeterlaw17.ManifestGrows': WHATEVER THE INPUT: true; the input reads as it did. -/
def manifestGrowsSpec : ChangeSpec := { name := "manifestGrows", fn := fun _ => fun
  | [d] => { results := [.lit (.bool true)], args := [d] }
  | _ => none }
def manifestGrowsRow : OpenClaim := { program := "ytjilnpbgclnecab", sum := "a50bab74f1c3c54c3035c383cdbfbced12f182687f1065deeef7a9e441150c8c", func := "lysimeter/lysimeterlaw17.ManifestGrows", spec := "manifestGrows", apart := false }
def ManifestGrowsSaid : Prop := manifestGrowsRow.holds Try.pinned (OpenSpec.ofChange manifestGrowsSpec)

/-- ITS FALSE NEIGHBOUR: 'it returns false'. Refute it at one input. -/
def manifestGrowsWrong : ChangeSpec := { name := "manifestGrows", fn := fun _ => fun
  | [d] => { results := [.lit (.bool false)], args := [d] }
  | _ => none }
def ManifestGrowsWrongFalsely : Prop := manifestGrowsRow.holds Try.pinned (OpenSpec.ofChange manifestGrowsWrong)

/-- 'lysimeterlaw14.PostingsPack': WHATEVER THE INPUT: true; the input reads as it did. -/
def postingsPackSpec : ChangeSpec := { name := "postingsPack", fn := fun _ => fun
  | [d1, d2] => { results := [.lit (.bool true)], args := [d1, d2] }
  | _ => none }
def postingsPackRow : OpenClaim := { program := "ytjilnpbgclnecab", sum := "a50bab74f1c3c54c3035c383cdbfbced12f182687f1065deeef7a9e441150c8c", func := "lysimeter/lysimeterlaw14.PostingsPack", spec := "postingsPack", unfollowed := true, recurses := true, apart := false }
def PostingsPackSaid : Prop := postingsPackRow.holds Try.pinned (OpenSpec.ofChange postingsPackSpec)

/-- ITS FALSE NEIGHBOUR: 'it returns false'. Refute it at one input. -/
def postingsPackWrong : ChangeSpec := { name := "postingsPack", fn := fun _ => fun
  | [d1, d2] => { results := [.lit (.bool false)], args := [d1, d2] }
  | _ => none }
def PostingsPackWrongFalsely : Prop := postingsPackRow.holds Try.pinned (OpenSpec.ofChange postingsPackWrong)

/-- 'lysimeterlaw14.PostingsRead': WHATEVER THE INPUT: true; the input reads as it did. -/
def postingsReadSpec : ChangeSpec := { name := "postingsRead", fn := fun _ => fun
  | [d] => { results := [.lit (.bool true)], args := [d] }
  | _ => none }
def postingsReadRow : OpenClaim := { program := "ytjilnpbgclnecab", sum := "a50bab74f1c3c54c3035c383cdbfbced12f182687f1065deeef7a9e441150c8c", func := "lysimeter/lysimeterlaw14.PostingsRead", spec := "postingsRead", unfollowed := true, recurses := true, apart := false }
def PostingsReadSaid : Prop := postingsReadRow.holds Try.pinned (OpenSpec.ofChange postingsReadSpec)

/-- ITS FALSE NEIGHBOUR: 'it returns false'. Refute it at one input. -/
def postingsReadWrong : ChangeSpec := { name := "postingsRead", fn := fun _ => fun
  | [d] => { results := [.lit (.bool false)], args := [d] }
  | _ => none }
def PostingsReadWrongFalsely : Prop := postingsReadRow.holds Try.pinned (OpenSpec.ofChange postingsReadWrong)

/-- 'lysimeterlaw17.ManifestPacks': WHATEVER THE INPUT: true; the input reads as it did. -/
def manifestPacksSpec : ChangeSpec := { name := "manifestPacks", fn := fun _ => fun
  | [d1, d2] => { results := [.lit (.bool true)], args := [d1, d2] }
  | _ => none }
def manifestPacksRow : OpenClaim := { program := "ytjilnpbgclnecab", sum := "a50bab74f1c3c54c3035c383cdbfbced12f182687f1065deeef7a9e441150c8c", func := "lysimeter/lysimeterlaw17.ManifestPacks", spec := "manifestPacks", unfollowed := true, recurses := true, apart := false }
def ManifestPacksSaid : Prop := manifestPacksRow.holds Try.pinned (OpenSpec.ofChange manifestPacksSpec)

/-- ITS FALSE NEIGHBOUR: 'it returns false'. Refute it at one input. -/
def manifestPacksWrong : ChangeSpec := { name := "manifestPacks", fn := fun _ => fun
  | [d1, d2] => { results := [.lit (.bool false)], args := [d1, d2] }
  | _ => none }
def ManifestPacksWrongFalsely : Prop := manifestPacksRow.holds Try.pinned (OpenSpec.ofChange manifestPacksWrong)

/- THE SECOND FORM. 'bulk': how many values and letters a reading holds, each counted each time it is reached (what is shared counts as often as it is met; a slice's spare places count too). A statement '..UptoSaid' is the law's where the arguments, and the package variables that the reading takes, are together of bulk at most 1048576: NARROWER than '..Said'. Prove '..Said' where nothing that the law and all that it calls make is longer than what came in: it says more and counts as full. Else prove '..UptoSaid'. A law counts once. -/
mutual
def uptoBulk {H : Type} : DataW H → Nat
  | .lit (.string bytes) => bytes.length + 1
  | .lit _ => 1
  | .nil => 1
  | .ptr d => uptoBulk d + 1
  | .slice elems spare => uptoBulkAll elems + uptoBulkAll spare + 1
  | .agg parts => uptoBulkAll parts + 1
  | .iface _ d => uptoBulk d + 1
  | .map entries => uptoBulkEntries entries + 1
  | .held _ => 1
def uptoBulkAll {H : Type} : List (DataW H) → Nat
  | [] => 0
  | d :: r => uptoBulk d + uptoBulkAll r
def uptoBulkEntries {H : Type} : List (Lit × DataW H) → Nat
  | [] => 0
  | x :: r => uptoBulkEntry x + uptoBulkEntries r
def uptoBulkEntry {H : Type} : Lit × DataW H → Nat
  | (.string bytes, d) => bytes.length + uptoBulk d + 1
  | (_, d) => uptoBulk d + 1
 end
def uptoSmall : (H : Type) → List (DataW H) → Bool := fun _ ds => decide (uptoBulkAll ds ≤ 1048576)
def OpenSpec.upto (s : _root_.Go.ChangeSpec) : _root_.Go.OpenSpec := { _root_.Go.OpenSpec.ofChange s with cond := some uptoSmall }

/-- 'lysimeterlaw9.FrameGets', WHERE WHAT IT READS IS OF BULK AT MOST 1048576: true; the input reads as it did. -/
def frameGetsUptoRow : OpenClaim := { program := "ytjilnpbgclnecab", sum := "a50bab74f1c3c54c3035c383cdbfbced12f182687f1065deeef7a9e441150c8c", func := "lysimeter/lysimeterlaw9.FrameGets", spec := "frameGets", unfollowed := true, recurses := true, apart := false, narrowed := true }
def FrameGetsUptoSaid : Prop := frameGetsUptoRow.holds Try.pinned (OpenSpec.upto frameGetsSpec)

/-- 'lysimeterlaw14.PostingsSets', WHERE WHAT IT READS IS OF BULK AT MOST 1048576: true; the input reads as it did. -/
def postingsSetsUptoRow : OpenClaim := { program := "ytjilnpbgclnecab", sum := "a50bab74f1c3c54c3035c383cdbfbced12f182687f1065deeef7a9e441150c8c", func := "lysimeter/lysimeterlaw14.PostingsSets", spec := "postingsSets", unfollowed := true, recurses := true, apart := false, narrowed := true }
def PostingsSetsUptoSaid : Prop := postingsSetsUptoRow.holds Try.pinned (OpenSpec.upto postingsSetsSpec)

/-- 'lysimeterlaw14.PostingsLaws', WHERE WHAT IT READS IS OF BULK AT MOST 1048576: true; the input reads as it did. -/
def postingsLawsUptoRow : OpenClaim := { program := "ytjilnpbgclnecab", sum := "a50bab74f1c3c54c3035c383cdbfbced12f182687f1065deeef7a9e441150c8c", func := "lysimeter/lysimeterlaw14.PostingsLaws", spec := "postingsLaws", unfollowed := true, recurses := true, apart := false, narrowed := true }
def PostingsLawsUptoSaid : Prop := postingsLawsUptoRow.holds Try.pinned (OpenSpec.upto postingsLawsSpec)

/-- 'lysimeterlaw9.FrameRows', WHERE WHAT IT READS IS OF BULK AT MOST 1048576: true; the input reads as it did. -/
def frameRowsUptoRow : OpenClaim := { program := "ytjilnpbgclnecab", sum := "a50bab74f1c3c54c3035c383cdbfbced12f182687f1065deeef7a9e441150c8c", func := "lysimeter/lysimeterlaw9.FrameRows", spec := "frameRows", unfollowed := true, recurses := true, apart := false, narrowed := true }
def FrameRowsUptoSaid : Prop := frameRowsUptoRow.holds Try.pinned (OpenSpec.upto frameRowsSpec)

/-- 'lysimeterlaw14.PostingsAll', WHERE WHAT IT READS IS OF BULK AT MOST 1048576: true; the input reads as it did. -/
def postingsAllUptoRow : OpenClaim := { program := "ytjilnpbgclnecab", sum := "a50bab74f1c3c54c3035c383cdbfbced12f182687f1065deeef7a9e441150c8c", func := "lysimeter/lysimeterlaw14.PostingsAll", spec := "postingsAll", unfollowed := true, recurses := true, apart := false, narrowed := true }
def PostingsAllUptoSaid : Prop := postingsAllUptoRow.holds Try.pinned (OpenSpec.upto postingsAllSpec)

/-- 'lysimeterlaw17.ManifestTurns', WHERE WHAT IT READS IS OF BULK AT MOST 1048576: true; the input reads as it did. -/
def manifestTurnsUptoRow : OpenClaim := { program := "ytjilnpbgclnecab", sum := "a50bab74f1c3c54c3035c383cdbfbced12f182687f1065deeef7a9e441150c8c", func := "lysimeter/lysimeterlaw17.ManifestTurns", spec := "manifestTurns", apart := false, narrowed := true }
def ManifestTurnsUptoSaid : Prop := manifestTurnsUptoRow.holds Try.pinned (OpenSpec.upto manifestTurnsSpec)

/-- 'lysimeterlaw17.ManifestGrows', WHERE WHAT IT READS IS OF BULK AT MOST 1048576: true; the input reads as it did. -/
def manifestGrowsUptoRow : OpenClaim := { program := "ytjilnpbgclnecab", sum := "a50bab74f1c3c54c3035c383cdbfbced12f182687f1065deeef7a9e441150c8c", func := "lysimeter/lysimeterlaw17.ManifestGrows", spec := "manifestGrows", apart := false, narrowed := true }
def ManifestGrowsUptoSaid : Prop := manifestGrowsUptoRow.holds Try.pinned (OpenSpec.upto manifestGrowsSpec)

/-- 'lysimeterlaw14.PostingsPack', WHERE WHAT IT READS IS OF BULK AT MOST 1048576: true; the input reads as it did. -/
def postingsPackUptoRow : OpenClaim := { program := "ytjilnpbgclnecab", sum := "a50bab74f1c3c54c3035c383cdbfbced12f182687f1065deeef7a9e441150c8c", func := "lysimeter/lysimeterlaw14.PostingsPack", spec := "postingsPack", unfollowed := true, recurses := true, apart := false, narrowed := true }
def PostingsPackUptoSaid : Prop := postingsPackUptoRow.holds Try.pinned (OpenSpec.upto postingsPackSpec)

/-- 'lysimeterlaw14.PostingsRead', WHERE WHAT IT READS IS OF BULK AT MOST 1048576: true; the input reads as it did. -/
def postingsReadUptoRow : OpenClaim := { program := "ytjilnpbgclnecab", sum := "a50bab74f1c3c54c3035c383cdbfbced12f182687f1065deeef7a9e441150c8c", func := "lysimeter/lysimeterlaw14.PostingsRead", spec := "postingsRead", unfollowed := true, recurses := true, apart := false, narrowed := true }
def PostingsReadUptoSaid : Prop := postingsReadUptoRow.holds Try.pinned (OpenSpec.upto postingsReadSpec)

/-- 'lysimeterlaw17.ManifestPacks', WHERE WHAT IT READS IS OF BULK AT MOST 1048576: true; the input reads as it did. -/
def manifestPacksUptoRow : OpenClaim := { program := "ytjilnpbgclnecab", sum := "a50bab74f1c3c54c3035c383cdbfbced12f182687f1065deeef7a9e441150c8c", func := "lysimeter/lysimeterlaw17.ManifestPacks", spec := "manifestPacks", unfollowed := true, recurses := true, apart := false, narrowed := true }
def ManifestPacksUptoSaid : Prop := manifestPacksUptoRow.holds Try.pinned (OpenSpec.upto manifestPacksSpec)

end Rows
end Go.Proofs.Ytjilnpbgclnecab
