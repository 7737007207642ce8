/- Sets of bits: contracts, eighth part. -/
import Derived.Test.YtbcifbogmjfpoaaBk
import Derived.Test.YtbcifbogmjfpoaaPBitsClonesx
import Derived.Test.YtbcifbogmjfpoaaPBitsDoesx
import Derived.Below
import Derived.Test.YtbcifbogmjfpoaaReg
import Derived.Deep.MidRow
import Derived.Deep.WholeRow
import Derived.Great.BuildSlice
import Derived.Lib.Hide
import Derived.OwnWalk
import Derived.WalkKit
import Derived.KernelRfl
import Derived.RowKit3
import Derived.Deep.LoopGhost
import Derived.Deep.QuietTactic
import Derived.BigQuiet
import Derived.WideLaws
import Derived.Outline
import Derived.Deep.DeepCutAuto
import Derived.Deep.CutBlock
import Derived.WalkSpells
import Derived.RegionTactic
import Derived.BigRegion
import Derived.WalkLawsBesides
namespace Go.Proofs.Ytbcifbogmjfpoaa
set_option linter.unusedVariables false
set_option linter.unusedSimpArgs false
open Go.RowKit Go.Proofs.YtbcifbogmjfpoaaW.PrintWords Go.Proofs.YtbcifbogmjfpoaaW.PrintLast Go.Proofs.YtbcifbogmjfpoaaW.PrintMore
namespace Bits
open Go.Bits
open PBitsDoes
open PBitsClones (S42 k42 at_T42 rd_T42)
/-- The document's set in memory: a row of its own. -/
abbrev Row (w : World) (base : Nat) (v : Value) (l : List Bool) : Prop := Kd.R Kd.bool 4 w base (fun k => some k = v.ownBlock) v l
theorem refof_yes (n : Nat) (w : World) (h : n ≤ 4096) :
    Calls Try.prog 23 #[.int .i64 n] w fun e w' => ∃ v, e = .returned (.tuple #[.agg #[v], .int .i64 0]) ∧ Row w' w.heap.size v (List.replicate n false) ∧ Below w.heap.size w w' := by
  refine (chantryref05_Of.calls n _ _ w (ref_of_yes n h)).mono ?_
  rintro e w' ⟨v, rfl, hr, hb⟩
  exact ⟨v, rfl, Kd.R_tight rfl hr, hb⟩
theorem refof_no (n : Int) (w : World) (h : n < 0 ∨ 4096 < n) :
    Calls Try.prog 23 #[.int .i64 n] w fun e w' => ∃ v, e = .returned (.tuple #[.agg #[v], .int .i64 1]) ∧ v.oneCell' = true ∧ Below w.heap.size w w' := by
  refine (chantryref05_Of.calls n _ _ w (ref_of_no n h)).mono ?_
  rintro e w' ⟨v, rfl, hr, hb⟩
  exact ⟨v, rfl, (Kd.R_val hr).2, hb⟩
theorem refadd {w0 w : World} {v : Value} {l : List Bool} (i : Int) (hB : Below w0.heap.size w0 w) (hR : Row w w0.heap.size v l) (hl : l.length ≤ 4096) :
    Calls Try.prog 26 #[.agg #[v], .int .i64 i] w fun e w' => ∃ v', e = .returned (.tuple #[.agg #[v'], .int .i64 (addL l i).2]) ∧ Row w' w0.heap.size v' (addL l i).1 ∧ Below w0.heap.size w0 w' ∧ Kept w w' (fun k => some k = v.ownBlock) := by
  refine (chantryref05_Add.calls 1 _ v l i (addL l i).1 (addL l i).2 w0 w hB hR (ref_add l i hl)).mono ?_
  rintro e w' ⟨v', rfl, hr, hb, hk⟩
  exact ⟨v', rfl, Kd.R_tight rfl hr, hb, hk⟩
theorem refdrop {w0 w : World} {v : Value} {l : List Bool} (i : Int) (hB : Below w0.heap.size w0 w) (hR : Row w w0.heap.size v l) (hl : l.length ≤ 4096) :
    Calls Try.prog 28 #[.agg #[v], .int .i64 i] w fun e w' => ∃ v', e = .returned (.tuple #[.agg #[v'], .int .i64 (dropL l i).2]) ∧ Row w' w0.heap.size v' (dropL l i).1 ∧ Below w0.heap.size w0 w' ∧ Kept w w' (fun k => some k = v.ownBlock) := by
  refine (chantryref05_Drop.calls 1 _ v l i (dropL l i).1 (dropL l i).2 w0 w hB hR (ref_drop l i hl)).mono ?_
  rintro e w' ⟨v', rfl, hr, hb, hk⟩
  exact ⟨v', rfl, Kd.R_tight rfl hr, hb, hk⟩
theorem reflist {w : World} {base : Nat} {v : Value} {l : List Bool} (hR : Row w base v l) (hl : l.length ≤ 4096) :
    Calls Try.prog 29 #[.agg #[v]] w fun e w' => ∃ u, e = .returned u ∧ Kd.R (Kd.int .i64) 3 w' w.heap.size (fun _ => True) u (listL l) ∧ Below w.heap.size w w' := by
  obtain ⟨A, c, rfl, hc, hC⟩ := Kd.R_reads hR
  exact chantryref05_List.calls 5000 A c l _ w hC hc (ref_list l hl)
theorem refhas {w : World} {base : Nat} {v : Value} {l : List Bool} (i : Int) (hR : Row w base v l) :
    Calls Try.prog 31 #[.agg #[v], .int .i64 i] w fun e w' => e = .returned (.bool (hasL l i)) ∧ Below w.heap.size w w' := by
  obtain ⟨A, c, rfl, hc, hC⟩ := Kd.R_reads hR
  exact chantryref05_Has.calls A c l i _ w hC hc (ref_has l i)
theorem reffirst {w : World} {base : Nat} {v : Value} {l : List Bool} (i : Int) (b : Bool) (hR : Row w base v l) (hl : l.length ≤ 4096) :
    Calls Try.prog 33 #[.agg #[v], .int .i64 i, .bool b] w fun e w' => e = .returned (.int .i64 (firstL l i b)) ∧ Below w.heap.size w w' := by
  obtain ⟨A, c, rfl, hc, hC⟩ := Kd.R_reads hR
  exact chantryref05_First.calls 5000 A c l i b _ w hC hc (ref_first l i b hl)

/-- The two sets that a law has, the program's in block sb, the document's in the variable xb. -/
structure Two (w0 w : World) (sb xb : Nat) (v : Value) (l : List Bool) : Prop where
  at_ : At w sb l
  var : w.heap[xb]? = some (.cells #[v] 38 (0, 0))
  row : Row w w0.heap.size v l
  bel : Below w0.heap.size w0 w
  sbase : w0.heap.size ≤ sb
  xbase : w0.heap.size ≤ xb
  ne : sb ≠ xb
  len : l.length ≤ 4096
theorem Two.xlt {w0 w : World} {sb xb : Nat} {v : Value} {l : List Bool} (h : Two w0 w sb xb v l) : xb < w.heap.size := (Array.getElem?_eq_some_iff.1 h.var).1
theorem Two.sown {w0 w : World} {sb xb : Nat} {v : Value} {l : List Bool} (h : Two w0 w sb xb v l) : some sb ≠ v.ownBlock := by
  obtain ⟨ws, hb, _⟩ := h.at_
  exact Kd.R_ne h.row hb (by decide)
theorem Two.xown {w0 w : World} {sb xb : Nat} {v : Value} {l : List Bool} (h : Two w0 w sb xb v l) : some xb ≠ v.ownBlock := Kd.R_ne h.row h.var (by decide)
theorem Two.below {w0 w w' : World} {sb xb : Nat} {v : Value} {l : List Bool} (h : Two w0 w sb xb v l) (hb : Below w.heap.size w w') : Two w0 w' sb xb v l :=
  ⟨h.at_.below hb, (hb.block xb h.xlt).trans h.var, Kd.R_below h.row hb, h.bel.trans (hb.mono h.bel.size), h.sbase, h.xbase, h.ne, h.len⟩
/-- The program's set was changed. -/
theorem Two.prog {w0 w w' : World} {sb xb : Nat} {v : Value} {l l' : List Bool} (h : Two w0 w sb xb v l) (ha : At w' sb l') (hg : w.grownBy w' (some sb)) :
    At w' sb l' ∧ w'.heap[xb]? = some (.cells #[v] 38 (0, 0)) ∧ Row w' w0.heap.size v l ∧ Below w0.heap.size w0 w' :=
  ⟨ha, (hg.block xb h.xlt (by simpa using h.ne.symm)).trans h.var, Kd.R_grown1 h.row rfl hg h.sown, mine h.bel h.at_ h.sbase hg⟩
/-- Both were: the document's answer laid into the variable. -/
theorem Two.next {w0 w w1 w2 : World} {sb xb : Nat} {v v' : Value} {l l' : List Bool} (h : Two w0 w sb xb v l) (ha : At w1 sb l') (hg : w.grownBy w1 (some sb)) (hl : l'.length ≤ 4096)
    (hr : Row w2 w0.heap.size v' l') (hb : Below w0.heap.size w0 w2) (hk : Kept w1 w2 (fun k => some k = v.ownBlock)) : Two w0 (w2.setCell ⟨xb, 0, none⟩ v') sb xb v' l' := by
  obtain ⟨p1, p2, p3, p4⟩ := h.prog ha hg
  have hx1 : xb < w1.heap.size := (Array.getElem?_eq_some_iff.1 p2).1
  have hv2 : w2.heap[xb]? = some (.cells #[v] 38 (0, 0)) := (hk.2 xb hx1 h.xown).trans p2
  have ha2 : At w2 sb l' := p1.keep (hk.2 sb p1.lt h.sown)
  refine ⟨ha2.keep (Below.heap_setCell w2 _ _ sb h.ne), ?_, Kd.R_set hr hv2 (by simp [Kd.bool]; decide) 0 v', hb.setCell h.xbase _, h.sbase, h.xbase, h.ne, hl⟩
  rw [heap_set_same hv2]
  rfl
end Bits
end Go.Proofs.Ytbcifbogmjfpoaa
