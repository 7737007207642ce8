/-
  No cell of these rows narrows 'for every input' (looked for: loops, veiled, ifaces, maps, wideKeys, modest, calm, conditions, laid).
  DERIVED. THE GIVEN ROWS OF THIS SEAT. 6 by the template 'for every input the law returns true; each argument reads behind the call as it read before'; 0 by the template 'total and deterministic' (their statements: YtbcifbogmjfpoaaTotals.lean).
  GIVEN WITH THE SEED: the statements are not yours to turn. If you find one false, say at which input.
  Laid BY PROGRAM, IN A SANDBOX (cutbox-rows.mjs): the forced cells as the released guide's own fill.sh prints them over the translation 802e5617d27bf9b4… (all of the seat's roots in one cut). By AI agents, Wed Nov 11 2026. No macro, syntax, notation, axiom, sorry.
-/
import Derived.Test.YtbcifbogmjfpoaaChecked
import GoSem.Claim
import GoSem.ClaimJoined
import GoSem.ClaimMapViews
import Derived.JoinedTies
import Derived.KernelRfl
namespace Go.Proofs.Ytbcifbogmjfpoaa
/- THE CELL 'sum', in the pinned program and in every row, IS THE sha256 OF THE DUMP (.gsa) THAT YtbcifbogmjfpoaaProg.lean LOADS. Nothing in Lean hashes anything: it is a label: what it is worth is what the hold of that sum in a sandbox is worth. -/
noncomputable def Try.pinned : Pinned := { name := "ytbcifbogmjfpoaa", sum := "802e5617d27bf9b48d406c67a643afdd7a4d0eaf2bab25268bc546d41991d0c7", checked := Try.checked }
namespace Rows
def none {H : Type} : Left H := { results := [], args := [] }

/-- 'chantrylaw30.RoomTells': WHATEVER THE INPUT: true; the input reads as it did. -/
def roomTellsSpec : ChangeSpec := { name := "roomTells", fn := fun _ => fun
  | [d1, d2, d3] => { results := [.lit (.bool true)], args := [d1, d2, d3] }
  | _ => none }
def roomTellsRow : OpenClaim := { program := "ytbcifbogmjfpoaa", sum := "802e5617d27bf9b48d406c67a643afdd7a4d0eaf2bab25268bc546d41991d0c7", func := "chantry/chantrylaw30.RoomTells", spec := "roomTells", apart := false }
def RoomTellsSaid : Prop := roomTellsRow.holds Try.pinned (OpenSpec.ofChange roomTellsSpec)

/-- ITS FALSE NEIGHBOUR: 'it returns false'. Refute it at one input. -/
def roomTellsWrong : ChangeSpec := { name := "roomTells", fn := fun _ => fun
  | [d1, d2, d3] => { results := [.lit (.bool false)], args := [d1, d2, d3] }
  | _ => none }
def RoomTellsWrongFalsely : Prop := roomTellsRow.holds Try.pinned (OpenSpec.ofChange roomTellsWrong)

/-- 'chantrylaw30.RoomLays': WHATEVER THE INPUT: true; the input reads as it did. -/
def roomLaysSpec : ChangeSpec := { name := "roomLays", fn := fun _ => fun
  | [d] => { results := [.lit (.bool true)], args := [d] }
  | _ => none }
def roomLaysRow : OpenClaim := { program := "ytbcifbogmjfpoaa", sum := "802e5617d27bf9b48d406c67a643afdd7a4d0eaf2bab25268bc546d41991d0c7", func := "chantry/chantrylaw30.RoomLays", spec := "roomLays", apart := false }
def RoomLaysSaid : Prop := roomLaysRow.holds Try.pinned (OpenSpec.ofChange roomLaysSpec)

/-- ITS FALSE NEIGHBOUR: 'it returns false'. Refute it at one input. -/
def roomLaysWrong : ChangeSpec := { name := "roomLays", fn := fun _ => fun
  | [d] => { results := [.lit (.bool false)], args := [d] }
  | _ => none }
def RoomLaysWrongFalsely : Prop := roomLaysRow.holds Try.pinned (OpenSpec.ofChange roomLaysWrong)

/-- 'chantrylaw30.RoomFewer': WHATEVER THE INPUT: true; the input reads as it did. -/
def roomFewerSpec : ChangeSpec := { name := "roomFewer", fn := fun _ => fun
  | [d1, d2, d3] => { results := [.lit (.bool true)], args := [d1, d2, d3] }
  | _ => none }
def roomFewerRow : OpenClaim := { program := "ytbcifbogmjfpoaa", sum := "802e5617d27bf9b48d406c67a643afdd7a4d0eaf2bab25268bc546d41991d0c7", func := "chantry/chantrylaw30.RoomFewer", spec := "roomFewer", apart := false }
def RoomFewerSaid : Prop := roomFewerRow.holds Try.pinned (OpenSpec.ofChange roomFewerSpec)

/-- ITS FALSE NEIGHBOUR: 'it returns false'. Refute it at one input. -/
def roomFewerWrong : ChangeSpec := { name := "roomFewer", fn := fun _ => fun
  | [d1, d2, d3] => { results := [.lit (.bool false)], args := [d1, d2, d3] }
  | _ => none }
def RoomFewerWrongFalsely : Prop := roomFewerRow.holds Try.pinned (OpenSpec.ofChange roomFewerWrong)

/-- 'chantrylaw05.BitsDoes': WHATEVER THE INPUT: true; the input reads as it did. -/
def bitsDoesSpec : ChangeSpec := { name := "bitsDoes", fn := fun _ => fun
  | [d1, d2] => { results := [.lit (.bool true)], args := [d1, d2] }
  | _ => none }
def bitsDoesRow : OpenClaim := { program := "ytbcifbogmjfpoaa", sum := "802e5617d27bf9b48d406c67a643afdd7a4d0eaf2bab25268bc546d41991d0c7", func := "chantry/chantrylaw05.BitsDoes", spec := "bitsDoes", apart := false }
def BitsDoesSaid : Prop := bitsDoesRow.holds Try.pinned (OpenSpec.ofChange bitsDoesSpec)

/-- ITS FALSE NEIGHBOUR: 'it returns false'. Refute it at one input. -/
def bitsDoesWrong : ChangeSpec := { name := "bitsDoes", fn := fun _ => fun
  | [d1, d2] => { results := [.lit (.bool false)], args := [d1, d2] }
  | _ => none }
def BitsDoesWrongFalsely : Prop := bitsDoesRow.holds Try.pinned (OpenSpec.ofChange bitsDoesWrong)

/-- 'chantrylaw05.BitsNext': WHATEVER THE INPUT: true; the input reads as it did. -/
def bitsNextSpec : ChangeSpec := { name := "bitsNext", fn := fun _ => fun
  | [d1, d2] => { results := [.lit (.bool true)], args := [d1, d2] }
  | _ => none }
def bitsNextRow : OpenClaim := { program := "ytbcifbogmjfpoaa", sum := "802e5617d27bf9b48d406c67a643afdd7a4d0eaf2bab25268bc546d41991d0c7", func := "chantry/chantrylaw05.BitsNext", spec := "bitsNext", apart := false }
def BitsNextSaid : Prop := bitsNextRow.holds Try.pinned (OpenSpec.ofChange bitsNextSpec)

/-- ITS FALSE NEIGHBOUR: 'it returns false'. Refute it at one input. -/
def bitsNextWrong : ChangeSpec := { name := "bitsNext", fn := fun _ => fun
  | [d1, d2] => { results := [.lit (.bool false)], args := [d1, d2] }
  | _ => none }
def BitsNextWrongFalsely : Prop := bitsNextRow.holds Try.pinned (OpenSpec.ofChange bitsNextWrong)

/-- 'chantrylaw05.BitsClones': WHATEVER THE INPUT: true; the input reads as it did. -/
def bitsClonesSpec : ChangeSpec := { name := "bitsClones", fn := fun _ => fun
  | [d1, d2, d3] => { results := [.lit (.bool true)], args := [d1, d2, d3] }
  | _ => none }
def bitsClonesRow : OpenClaim := { program := "ytbcifbogmjfpoaa", sum := "802e5617d27bf9b48d406c67a643afdd7a4d0eaf2bab25268bc546d41991d0c7", func := "chantry/chantrylaw05.BitsClones", spec := "bitsClones", apart := false }
def BitsClonesSaid : Prop := bitsClonesRow.holds Try.pinned (OpenSpec.ofChange bitsClonesSpec)

/-- ITS FALSE NEIGHBOUR: 'it returns false'. Refute it at one input. -/
def bitsClonesWrong : ChangeSpec := { name := "bitsClones", fn := fun _ => fun
  | [d1, d2, d3] => { results := [.lit (.bool false)], args := [d1, d2, d3] }
  | _ => none }
def BitsClonesWrongFalsely : Prop := bitsClonesRow.holds Try.pinned (OpenSpec.ofChange bitsClonesWrong)

/- THE SECOND FORM. 'bulk': how many values and letters a reading holds, each counted each time it is reached (what is shared counts as often as it is met; a slice's spare places count too). A statement '..UptoSaid' is the law's where the arguments, and the package variables that the reading takes, are together of bulk at most 1048576: NARROWER than '..Said'. Prove '..Said' where nothing that the law and all that it calls make is longer than what came in: it says more and counts as full. Else prove '..UptoSaid'. A law counts once. -/
mutual
def uptoBulk {H : Type} : DataW H → Nat
  | .lit (.string bytes) => bytes.length + 1
  | .lit _ => 1
  | .nil => 1
  | .ptr d => uptoBulk d + 1
  | .slice elems spare => uptoBulkAll elems + uptoBulkAll spare + 1
  | .agg parts => uptoBulkAll parts + 1
  | .iface _ d => uptoBulk d + 1
  | .map entries => uptoBulkEntries entries + 1
  | .held _ => 1
def uptoBulkAll {H : Type} : List (DataW H) → Nat
  | [] => 0
  | d :: r => uptoBulk d + uptoBulkAll r
def uptoBulkEntries {H : Type} : List (Lit × DataW H) → Nat
  | [] => 0
  | x :: r => uptoBulkEntry x + uptoBulkEntries r
def uptoBulkEntry {H : Type} : Lit × DataW H → Nat
  | (.string bytes, d) => bytes.length + uptoBulk d + 1
  | (_, d) => uptoBulk d + 1
 end
def uptoSmall : (H : Type) → List (DataW H) → Bool := fun _ ds => decide (uptoBulkAll ds ≤ 1048576)
def OpenSpec.upto (s : _root_.Go.ChangeSpec) : _root_.Go.OpenSpec := { _root_.Go.OpenSpec.ofChange s with cond := some uptoSmall }

/-- 'chantrylaw30.RoomTells', WHERE WHAT IT READS IS OF BULK AT MOST 1048576: true; the input reads as it did. -/
def roomTellsUptoRow : OpenClaim := { program := "ytbcifbogmjfpoaa", sum := "802e5617d27bf9b48d406c67a643afdd7a4d0eaf2bab25268bc546d41991d0c7", func := "chantry/chantrylaw30.RoomTells", spec := "roomTells", apart := false, narrowed := true }
def RoomTellsUptoSaid : Prop := roomTellsUptoRow.holds Try.pinned (OpenSpec.upto roomTellsSpec)

/-- 'chantrylaw30.RoomLays', WHERE WHAT IT READS IS OF BULK AT MOST 1048576: true; the input reads as it did. -/
def roomLaysUptoRow : OpenClaim := { program := "ytbcifbogmjfpoaa", sum := "802e5617d27bf9b48d406c67a643afdd7a4d0eaf2bab25268bc546d41991d0c7", func := "chantry/chantrylaw30.RoomLays", spec := "roomLays", apart := false, narrowed := true }
def RoomLaysUptoSaid : Prop := roomLaysUptoRow.holds Try.pinned (OpenSpec.upto roomLaysSpec)

/-- 'chantrylaw30.RoomFewer', WHERE WHAT IT READS IS OF BULK AT MOST 1048576: true; the input reads as it did. -/
def roomFewerUptoRow : OpenClaim := { program := "ytbcifbogmjfpoaa", sum := "802e5617d27bf9b48d406c67a643afdd7a4d0eaf2bab25268bc546d41991d0c7", func := "chantry/chantrylaw30.RoomFewer", spec := "roomFewer", apart := false, narrowed := true }
def RoomFewerUptoSaid : Prop := roomFewerUptoRow.holds Try.pinned (OpenSpec.upto roomFewerSpec)

/-- 'chantrylaw05.BitsDoes', WHERE WHAT IT READS IS OF BULK AT MOST 1048576: true; the input reads as it did. -/
def bitsDoesUptoRow : OpenClaim := { program := "ytbcifbogmjfpoaa", sum := "802e5617d27bf9b48d406c67a643afdd7a4d0eaf2bab25268bc546d41991d0c7", func := "chantry/chantrylaw05.BitsDoes", spec := "bitsDoes", apart := false, narrowed := true }
def BitsDoesUptoSaid : Prop := bitsDoesUptoRow.holds Try.pinned (OpenSpec.upto bitsDoesSpec)

/-- 'chantrylaw05.BitsNext', WHERE WHAT IT READS IS OF BULK AT MOST 1048576: true; the input reads as it did. -/
def bitsNextUptoRow : OpenClaim := { program := "ytbcifbogmjfpoaa", sum := "802e5617d27bf9b48d406c67a643afdd7a4d0eaf2bab25268bc546d41991d0c7", func := "chantry/chantrylaw05.BitsNext", spec := "bitsNext", apart := false, narrowed := true }
def BitsNextUptoSaid : Prop := bitsNextUptoRow.holds Try.pinned (OpenSpec.upto bitsNextSpec)

/-- 'chantrylaw05.BitsClones', WHERE WHAT IT READS IS OF BULK AT MOST 1048576: true; the input reads as it did. -/
def bitsClonesUptoRow : OpenClaim := { program := "ytbcifbogmjfpoaa", sum := "802e5617d27bf9b48d406c67a643afdd7a4d0eaf2bab25268bc546d41991d0c7", func := "chantry/chantrylaw05.BitsClones", spec := "bitsClones", apart := false, narrowed := true }
def BitsClonesUptoSaid : Prop := bitsClonesUptoRow.holds Try.pinned (OpenSpec.upto bitsClonesSpec)

end Rows
end Go.Proofs.Ytbcifbogmjfpoaa
