/-
  No cell of these rows narrows 'for every input' (looked for: loops, veiled, ifaces, maps, wideKeys, modest, calm, conditions, laid).
  DERIVED. THE GIVEN ROWS OF THIS SEAT. 7 by the template 'for every input the law returns true; each argument reads behind the call as it read before'; 0 by the template 'total and deterministic' (their statements: YtkfbegmfepehiaaTotals.lean).
  GIVEN WITH THE SEED: the statements are not yours to turn. If you find one false, say at which input.
  Laid BY PROGRAM, IN A SANDBOX (cutbox-rows.mjs): the forced cells as the released guide's own fill.sh prints them over the translation af3f71e71d260910… (all of the seat's roots in one cut). By AI agents, Wed Nov 11 2026. No macro, syntax, notation, axiom, sorry.
-/
import Derived.Test.YtkfbegmfepehiaaChecked
import GoSem.Claim
import GoSem.ClaimJoined
import GoSem.ClaimMapViews
import Derived.JoinedTies
import Derived.KernelRfl
namespace Go.Proofs.Ytkfbegmfepehiaa
/- THE CELL 'sum', in the pinned program and in every row, IS THE sha256 OF THE DUMP (.gsa) THAT YtkfbegmfepehiaaProg.lean LOADS. Nothing in Lean hashes anything: it is a label: what it is worth is what the hold of that sum in a sandbox is worth. -/
noncomputable def Try.pinned : Pinned := { name := "ytkfbegmfepehiaa", sum := "af3f71e71d2609107fb17b441a1e742f67a5bc0dabff32bec2ad5426ea2cb7fd", checked := Try.checked }
namespace Rows
def none {H : Type} : Left H := { results := [], args := [] }

/-- 'chantrylaw09.CellPuts': WHATEVER THE INPUT: true; the input reads as it did. -/
def cellPutsSpec : ChangeSpec := { name := "cellPuts", fn := fun _ => fun
  | [d] => { results := [.lit (.bool true)], args := [d] }
  | _ => none }
def cellPutsRow : OpenClaim := { program := "ytkfbegmfepehiaa", sum := "af3f71e71d2609107fb17b441a1e742f67a5bc0dabff32bec2ad5426ea2cb7fd", func := "chantry/chantrylaw09.CellPuts", spec := "cellPuts", unfollowed := true, recurses := true, apart := false }
def CellPutsSaid : Prop := cellPutsRow.holds Try.pinned (OpenSpec.ofChange cellPutsSpec)

/-- ITS FALSE NEIGHBOUR: 'it returns false'. Refute it at one input. -/
def cellPutsWrong : ChangeSpec := { name := "cellPuts", fn := fun _ => fun
  | [d] => { results := [.lit (.bool false)], args := [d] }
  | _ => none }
def CellPutsWrongFalsely : Prop := cellPutsRow.holds Try.pinned (OpenSpec.ofChange cellPutsWrong)

/-- 'chantrylaw09.CellGets': WHATEVER THE INPUT: true; the input reads as it did. -/
def cellGetsSpec : ChangeSpec := { name := "cellGets", fn := fun _ => fun
  | [d] => { results := [.lit (.bool true)], args := [d] }
  | _ => none }
def cellGetsRow : OpenClaim := { program := "ytkfbegmfepehiaa", sum := "af3f71e71d2609107fb17b441a1e742f67a5bc0dabff32bec2ad5426ea2cb7fd", func := "chantry/chantrylaw09.CellGets", spec := "cellGets", unfollowed := true, recurses := true, apart := false }
def CellGetsSaid : Prop := cellGetsRow.holds Try.pinned (OpenSpec.ofChange cellGetsSpec)

/-- ITS FALSE NEIGHBOUR: 'it returns false'. Refute it at one input. -/
def cellGetsWrong : ChangeSpec := { name := "cellGets", fn := fun _ => fun
  | [d] => { results := [.lit (.bool false)], args := [d] }
  | _ => none }
def CellGetsWrongFalsely : Prop := cellGetsRow.holds Try.pinned (OpenSpec.ofChange cellGetsWrong)

/-- 'chantrylaw09.CellCuts': WHATEVER THE INPUT: true; the input reads as it did. -/
def cellCutsSpec : ChangeSpec := { name := "cellCuts", fn := fun _ => fun
  | [d1, d2, d3] => { results := [.lit (.bool true)], args := [d1, d2, d3] }
  | _ => none }
def cellCutsRow : OpenClaim := { program := "ytkfbegmfepehiaa", sum := "af3f71e71d2609107fb17b441a1e742f67a5bc0dabff32bec2ad5426ea2cb7fd", func := "chantry/chantrylaw09.CellCuts", spec := "cellCuts", unfollowed := true, recurses := true, apart := false }
def CellCutsSaid : Prop := cellCutsRow.holds Try.pinned (OpenSpec.ofChange cellCutsSpec)

/-- ITS FALSE NEIGHBOUR: 'it returns false'. Refute it at one input. -/
def cellCutsWrong : ChangeSpec := { name := "cellCuts", fn := fun _ => fun
  | [d1, d2, d3] => { results := [.lit (.bool false)], args := [d1, d2, d3] }
  | _ => none }
def CellCutsWrongFalsely : Prop := cellCutsRow.holds Try.pinned (OpenSpec.ofChange cellCutsWrong)

/-- 'chantrylaw07.SectorPuts': WHATEVER THE INPUT: true; the input reads as it did. -/
def sectorPutsSpec : ChangeSpec := { name := "sectorPuts", fn := fun _ => fun
  | [d] => { results := [.lit (.bool true)], args := [d] }
  | _ => none }
def sectorPutsRow : OpenClaim := { program := "ytkfbegmfepehiaa", sum := "af3f71e71d2609107fb17b441a1e742f67a5bc0dabff32bec2ad5426ea2cb7fd", func := "chantry/chantrylaw07.SectorPuts", spec := "sectorPuts", unfollowed := true, recurses := true, apart := false }
def SectorPutsSaid : Prop := sectorPutsRow.holds Try.pinned (OpenSpec.ofChange sectorPutsSpec)

/-- ITS FALSE NEIGHBOUR: 'it returns false'. Refute it at one input. -/
def sectorPutsWrong : ChangeSpec := { name := "sectorPuts", fn := fun _ => fun
  | [d] => { results := [.lit (.bool false)], args := [d] }
  | _ => none }
def SectorPutsWrongFalsely : Prop := sectorPutsRow.holds Try.pinned (OpenSpec.ofChange sectorPutsWrong)

/-- 'chantrylaw07.SectorGets': WHATEVER THE INPUT: true; the input reads as it did. -/
def sectorGetsSpec : ChangeSpec := { name := "sectorGets", fn := fun _ => fun
  | [d] => { results := [.lit (.bool true)], args := [d] }
  | _ => none }
def sectorGetsRow : OpenClaim := { program := "ytkfbegmfepehiaa", sum := "af3f71e71d2609107fb17b441a1e742f67a5bc0dabff32bec2ad5426ea2cb7fd", func := "chantry/chantrylaw07.SectorGets", spec := "sectorGets", unfollowed := true, recurses := true, apart := false }
def SectorGetsSaid : Prop := sectorGetsRow.holds Try.pinned (OpenSpec.ofChange sectorGetsSpec)

/-- ITS FALSE NEIGHBOUR: 'it returns false'. Refute it at one input. -/
def sectorGetsWrong : ChangeSpec := { name := "sectorGets", fn := fun _ => fun
  | [d] => { results := [.lit (.bool false)], args := [d] }
  | _ => none }
def SectorGetsWrongFalsely : Prop := sectorGetsRow.holds Try.pinned (OpenSpec.ofChange sectorGetsWrong)

/-- 'chantrylaw07.SectorSplits': WHATEVER THE INPUT: true; the input reads as it did. -/
def sectorSplitsSpec : ChangeSpec := { name := "sectorSplits", fn := fun _ => fun
  | [d1, d2] => { results := [.lit (.bool true)], args := [d1, d2] }
  | _ => none }
def sectorSplitsRow : OpenClaim := { program := "ytkfbegmfepehiaa", sum := "af3f71e71d2609107fb17b441a1e742f67a5bc0dabff32bec2ad5426ea2cb7fd", func := "chantry/chantrylaw07.SectorSplits", spec := "sectorSplits", unfollowed := true, recurses := true, apart := false }
def SectorSplitsSaid : Prop := sectorSplitsRow.holds Try.pinned (OpenSpec.ofChange sectorSplitsSpec)

/-- ITS FALSE NEIGHBOUR: 'it returns false'. Refute it at one input. -/
def sectorSplitsWrong : ChangeSpec := { name := "sectorSplits", fn := fun _ => fun
  | [d1, d2] => { results := [.lit (.bool false)], args := [d1, d2] }
  | _ => none }
def SectorSplitsWrongFalsely : Prop := sectorSplitsRow.holds Try.pinned (OpenSpec.ofChange sectorSplitsWrong)

/-- 'chantrylaw07.SectorTurns': WHATEVER THE INPUT: true; the input reads as it did. -/
def sectorTurnsSpec : ChangeSpec := { name := "sectorTurns", fn := fun _ => fun
  | [d1, d2, d3] => { results := [.lit (.bool true)], args := [d1, d2, d3] }
  | _ => none }
def sectorTurnsRow : OpenClaim := { program := "ytkfbegmfepehiaa", sum := "af3f71e71d2609107fb17b441a1e742f67a5bc0dabff32bec2ad5426ea2cb7fd", func := "chantry/chantrylaw07.SectorTurns", spec := "sectorTurns", unfollowed := true, recurses := true, apart := false }
def SectorTurnsSaid : Prop := sectorTurnsRow.holds Try.pinned (OpenSpec.ofChange sectorTurnsSpec)

/-- ITS FALSE NEIGHBOUR: 'it returns false'. Refute it at one input. -/
def sectorTurnsWrong : ChangeSpec := { name := "sectorTurns", fn := fun _ => fun
  | [d1, d2, d3] => { results := [.lit (.bool false)], args := [d1, d2, d3] }
  | _ => none }
def SectorTurnsWrongFalsely : Prop := sectorTurnsRow.holds Try.pinned (OpenSpec.ofChange sectorTurnsWrong)

/- THE SECOND FORM. 'bulk': how many values and letters a reading holds, each counted each time it is reached (what is shared counts as often as it is met; a slice's spare places count too). A statement '..UptoSaid' is the law's where the arguments, and the package variables that the reading takes, are together of bulk at most 1048576: NARROWER than '..Said'. Prove '..Said' where nothing that the law and all that it calls make is longer than what came in: it says more and counts as full. Else prove '..UptoSaid'. A law counts once. -/
mutual
def uptoBulk {H : Type} : DataW H → Nat
  | .lit (.string bytes) => bytes.length + 1
  | .lit _ => 1
  | .nil => 1
  | .ptr d => uptoBulk d + 1
  | .slice elems spare => uptoBulkAll elems + uptoBulkAll spare + 1
  | .agg parts => uptoBulkAll parts + 1
  | .iface _ d => uptoBulk d + 1
  | .map entries => uptoBulkEntries entries + 1
  | .held _ => 1
def uptoBulkAll {H : Type} : List (DataW H) → Nat
  | [] => 0
  | d :: r => uptoBulk d + uptoBulkAll r
def uptoBulkEntries {H : Type} : List (Lit × DataW H) → Nat
  | [] => 0
  | x :: r => uptoBulkEntry x + uptoBulkEntries r
def uptoBulkEntry {H : Type} : Lit × DataW H → Nat
  | (.string bytes, d) => bytes.length + uptoBulk d + 1
  | (_, d) => uptoBulk d + 1
 end
def uptoSmall : (H : Type) → List (DataW H) → Bool := fun _ ds => decide (uptoBulkAll ds ≤ 1048576)
def OpenSpec.upto (s : _root_.Go.ChangeSpec) : _root_.Go.OpenSpec := { _root_.Go.OpenSpec.ofChange s with cond := some uptoSmall }

/-- 'chantrylaw09.CellPuts', WHERE WHAT IT READS IS OF BULK AT MOST 1048576: true; the input reads as it did. -/
def cellPutsUptoRow : OpenClaim := { program := "ytkfbegmfepehiaa", sum := "af3f71e71d2609107fb17b441a1e742f67a5bc0dabff32bec2ad5426ea2cb7fd", func := "chantry/chantrylaw09.CellPuts", spec := "cellPuts", unfollowed := true, recurses := true, apart := false, narrowed := true }
def CellPutsUptoSaid : Prop := cellPutsUptoRow.holds Try.pinned (OpenSpec.upto cellPutsSpec)

/-- 'chantrylaw09.CellGets', WHERE WHAT IT READS IS OF BULK AT MOST 1048576: true; the input reads as it did. -/
def cellGetsUptoRow : OpenClaim := { program := "ytkfbegmfepehiaa", sum := "af3f71e71d2609107fb17b441a1e742f67a5bc0dabff32bec2ad5426ea2cb7fd", func := "chantry/chantrylaw09.CellGets", spec := "cellGets", unfollowed := true, recurses := true, apart := false, narrowed := true }
def CellGetsUptoSaid : Prop := cellGetsUptoRow.holds Try.pinned (OpenSpec.upto cellGetsSpec)

/-- 'chantrylaw09.CellCuts', WHERE WHAT IT READS IS OF BULK AT MOST 1048576: true; the input reads as it did. -/
def cellCutsUptoRow : OpenClaim := { program := "ytkfbegmfepehiaa", sum := "af3f71e71d2609107fb17b441a1e742f67a5bc0dabff32bec2ad5426ea2cb7fd", func := "chantry/chantrylaw09.CellCuts", spec := "cellCuts", unfollowed := true, recurses := true, apart := false, narrowed := true }
def CellCutsUptoSaid : Prop := cellCutsUptoRow.holds Try.pinned (OpenSpec.upto cellCutsSpec)

/-- 'chantrylaw07.SectorPuts', WHERE WHAT IT READS IS OF BULK AT MOST 1048576: true; the input reads as it did. -/
def sectorPutsUptoRow : OpenClaim := { program := "ytkfbegmfepehiaa", sum := "af3f71e71d2609107fb17b441a1e742f67a5bc0dabff32bec2ad5426ea2cb7fd", func := "chantry/chantrylaw07.SectorPuts", spec := "sectorPuts", unfollowed := true, recurses := true, apart := false, narrowed := true }
def SectorPutsUptoSaid : Prop := sectorPutsUptoRow.holds Try.pinned (OpenSpec.upto sectorPutsSpec)

/-- 'chantrylaw07.SectorGets', WHERE WHAT IT READS IS OF BULK AT MOST 1048576: true; the input reads as it did. -/
def sectorGetsUptoRow : OpenClaim := { program := "ytkfbegmfepehiaa", sum := "af3f71e71d2609107fb17b441a1e742f67a5bc0dabff32bec2ad5426ea2cb7fd", func := "chantry/chantrylaw07.SectorGets", spec := "sectorGets", unfollowed := true, recurses := true, apart := false, narrowed := true }
def SectorGetsUptoSaid : Prop := sectorGetsUptoRow.holds Try.pinned (OpenSpec.upto sectorGetsSpec)

/-- 'chantrylaw07.SectorSplits', WHERE WHAT IT READS IS OF BULK AT MOST 1048576: true; the input reads as it did. -/
def sectorSplitsUptoRow : OpenClaim := { program := "ytkfbegmfepehiaa", sum := "af3f71e71d2609107fb17b441a1e742f67a5bc0dabff32bec2ad5426ea2cb7fd", func := "chantry/chantrylaw07.SectorSplits", spec := "sectorSplits", unfollowed := true, recurses := true, apart := false, narrowed := true }
def SectorSplitsUptoSaid : Prop := sectorSplitsUptoRow.holds Try.pinned (OpenSpec.upto sectorSplitsSpec)

/-- 'chantrylaw07.SectorTurns', WHERE WHAT IT READS IS OF BULK AT MOST 1048576: true; the input reads as it did. -/
def sectorTurnsUptoRow : OpenClaim := { program := "ytkfbegmfepehiaa", sum := "af3f71e71d2609107fb17b441a1e742f67a5bc0dabff32bec2ad5426ea2cb7fd", func := "chantry/chantrylaw07.SectorTurns", spec := "sectorTurns", unfollowed := true, recurses := true, apart := false, narrowed := true }
def SectorTurnsUptoSaid : Prop := sectorTurnsUptoRow.holds Try.pinned (OpenSpec.upto sectorTurnsSpec)

end Rows
end Go.Proofs.Ytkfbegmfepehiaa
