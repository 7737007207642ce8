/- Part 8 of the proof of SuperGets: lemmas alone. -/
import Derived.Test.YtopfjmeejpamjaaZSuperGetsP6
import Derived.Below
import Derived.Lib.Hide
import Derived.OwnWalk
import Derived.WalkKit
import Derived.KernelRfl
import Derived.RowKit3
import Derived.Deep.LoopGhost
import Derived.Deep.QuietTactic
import Derived.BigQuiet
import Derived.WideLaws
import Derived.Great.BuildSlice
import Derived.Outline
import Derived.Deep.DeepCutAuto
import Derived.WalkSpells
import Derived.RegionTactic
import Derived.BigRegion
import Derived.WalkLawsBesides
import Derived.Test.YtopfjmeejpamjaaProg
import Derived.Deep.Slices
import Derived.Deep.SlicePairs
import Derived.Deep.Strs
import Derived.ChangeSame
section
namespace Go.Proofs.Ytopfjmeejpamjaa
set_option linter.unusedVariables false
set_option linter.unusedSimpArgs false
open Go.RowKit Go.Proofs.YtopfjmeejpamjaaW.PrintWords Go.Proofs.YtopfjmeejpamjaaW.PrintLast Go.Proofs.YtopfjmeejpamjaaW.PrintMore
namespace Disk
open Go.Disk PDiskDoes PSuper
abbrev kB : Kd (List Int) := Kd.slice 5 (Kd.int .u8)
structure RDx (w : World) (base sb xb : Nat) (D : Dk) (vs vw : Value) : Prop where
  ok : Ok D
  xbase : base ≤ xb
  slt : sb < w.heap.size
  sown : ∀ k, vs.ownBlock = some k → base ≤ k
  wown : ∀ k, vw.ownBlock = some k → base ≤ k
  cells : w.heap[xb]? = some (.cells #[vs, vw, .int .i64 D.left, .bool D.off, .int .i64 D.reads, .int .i64 D.writes, .int .i64 D.flushes] 103 (0, 0))
  safe : Kd.R kB 26 w 0 (fun k => k ≠ sb) vs D.safe
  waits : Kd.R kW 117 w 0 (fun k => k ≠ sb) vw D.waits
def RD (w : World) (base sb xb : Nat) (D : Dk) : Prop := ∃ vs vw, RDx w base sb xb D vs vw
theorem RDx.below {w w' : World} {base sb xb : Nat} {D : Dk} {vs vw : Value} (h : RDx w base sb xb D vs vw) (b : Below w.heap.size w w') : RDx w' base sb xb D vs vw :=
  ⟨h.ok, h.xbase, Nat.lt_of_lt_of_le h.slt b.size, h.sown, h.wown, (b.block xb (blk_lt h.cells)).trans h.cells, Kd.R_below h.safe b, Kd.R_below h.waits b⟩
theorem RD.below {w w' : World} {base sb xb : Nat} {D : Dk} (h : RD w base sb xb D) (b : Below w.heap.size w w') : RD w' base sb xb D := by
  obtain ⟨vs, vw, h⟩ := h
  exact ⟨vs, vw, h.below b⟩
theorem RD.ok {w : World} {base sb xb : Nat} {D : Dk} (h : RD w base sb xb D) : Ok D := by
  obtain ⟨vs, vw, h⟩ := h
  exact h.ok
theorem RDx.put {w : World} {base sb xb : Nat} {D D' : Dk} {vs vw : Value} (h : RDx w base sb xb D vs vw) (k : Nat) (v : Value) (hok : Ok D') (hs : D'.safe = D.safe) (hw : D'.waits = D.waits)
    (hc : (#[vs, vw, .int .i64 D.left, .bool D.off, .int .i64 D.reads, .int .i64 D.writes, .int .i64 D.flushes] : Array Value).setIfInBounds k v = #[vs, vw, .int .i64 D'.left, .bool D'.off, .int .i64 D'.reads, .int .i64 D'.writes, .int .i64 D'.flushes]) :
    RDx (w.setCell ⟨xb, k, none⟩ v) base sb xb D' vs vw := by
  refine ⟨hok, h.xbase, by simpa [World.setCell] using h.slt, h.sown, h.wown, ?_, by rw [hs]; exact Kd.R_set h.safe h.cells (by decide) k v, by rw [hw]; exact Kd.R_set h.waits h.cells (by decide) k v⟩
  rw [blk_set h.cells k v, hc]
theorem RDx.fp {w w' : World} {base base' db sb xb : Nat} {D : Dk} {vs vw : Value} {dc : Array Value} (h : RDx w base sb xb D vs vw) (hd : w.heap[db]? = some (.cells dc 91 (0, 0))) {sc : Array Value} (hs : w.heap[sb]? = some (.cells sc 5 (0, 0))) (f : FP base' db sb w w') : RDx w' base sb xb D vs vw := by
  have key : ∀ k, k < w.heap.size → k ≠ sb → (∃ q, (q = 26 ∨ q = 5 ∨ q = 117 ∨ q = 103) ∧ ∃ cells, w.heap[k]? = some (.cells cells q (0, 0))) → w'.heap[k]? = w.heap[k]? := by
    rintro k hk hne ⟨q, hq, cells, hc⟩
    refine f.block k hk ?_ (fun c t fz hc' => ?_)
    · rintro (rfl | rfl)
      · rw [hd] at hc
        cases hc
        rcases hq with h | h | h | h <;> exact absurd h (by decide)
      · exact hne rfl
    · rw [hc] at hc'
      cases hc'
      rintro ⟨_, rfl⟩
      rcases hq with h | h | h | h <;> exact absurd h (by decide)
  refine ⟨h.ok, h.xbase, Nat.lt_of_lt_of_le h.slt f.size, h.sown, h.wown, ?_, ?_, ?_⟩
  · refine (key xb (blk_lt h.cells) ?_ ⟨_, .inr (.inr (.inr rfl)), _, h.cells⟩).trans h.cells
    rintro rfl
    have := hs.symm.trans h.cells
    simp at this
  · refine Kd.R_mono (Kd.R_step (Kd.R_bound h.safe) (fun k hk hlt => ?_)) (fun _ hk => hk.1)
    obtain ⟨h1, _, _, q, hq, cells, hc⟩ := hk
    refine key k hlt h1 ⟨q, ?_, cells, hc⟩
    have hq' : q ∈ [26, 5] := hq
    simp at hq'
    rcases hq' with h | h
    · exact .inl h
    · exact .inr (.inl h)
  · refine Kd.R_mono (Kd.R_step (Kd.R_bound h.waits) (fun k hk hlt => ?_)) (fun _ hk => hk.1)
    obtain ⟨h1, _, _, q, hq, cells, hc⟩ := hk
    refine key k hlt h1 ⟨q, ?_, cells, hc⟩
    have hq' : q ∈ [117, 5] := hq
    simp at hq'
    rcases hq' with h | h
    · exact .inr (.inr (.inl h))
    · exact .inr (.inl h)
theorem PDx.fx {w w' : World} {base base' db sb xb cs : Nat} {D : Dk} {vw : Value} {sp : List Value} {xc : Array Value} (h : PDx w base db sb D vw cs sp) (hx : w.heap[xb]? = some (.cells xc 103 (0, 0))) (f : FX base' xb w w') : PDx w' base db sb D vw cs sp := by
  have key : ∀ k, k < w.heap.size → (∃ q, (q = 94 ∨ q = 5 ∨ q = 91) ∧ ∃ cells, w.heap[k]? = some (.cells cells q (0, 0))) → w'.heap[k]? = w.heap[k]? := by
    rintro k hk ⟨q, hq, cells, hc⟩
    refine f.block k hk ?_ (fun c t fz hc' => ?_)
    · rintro rfl
      rw [hx] at hc
      cases hc
      rcases hq with h | h | h <;> exact absurd h (by decide)
    · rw [hc] at hc'
      cases hc'
      rintro ⟨_, h | h⟩ <;> subst h <;> rcases hq with h | h | h <;> exact absurd h (by decide)
  refine ⟨h.ok, h.dbase, h.sbase, h.wown, ?_, ?_, ?_, h.room⟩
  · exact (key db (blk_lt h.cells) ⟨_, .inr (.inr rfl), _, h.cells⟩).trans h.cells
  · refine Kd.R_mono (Kd.R_step (Kd.R_bound h.waits) (fun k hk hlt => ?_)) (fun _ hk => hk.1)
    obtain ⟨h1, _, _, q, hq, cells, hc⟩ := hk
    refine key k hlt ⟨q, ?_, cells, hc⟩
    have hq' : q ∈ [94, 5] := hq
    simp at hq'
    rcases hq' with h | h
    · exact .inl h
    · exact .inr (.inl h)
  · exact (key sb (blk_lt h.safe) ⟨_, .inr (.inl rfl), _, h.safe⟩).trans h.safe
end Disk
end Go.Proofs.Ytopfjmeejpamjaa
namespace Go.Proofs.Ytopfjmeejpamjaa
set_option linter.unusedVariables false
set_option linter.unusedSimpArgs false
open Go.RowKit Go.Proofs.YtopfjmeejpamjaaW.PrintWords Go.Proofs.YtopfjmeejpamjaaW.PrintLast Go.Proofs.YtopfjmeejpamjaaW.PrintMore
namespace Disk
open Go.Disk PDiskDoes PSuper
end Disk
end Go.Proofs.Ytopfjmeejpamjaa
namespace Go.Proofs.Ytopfjmeejpamjaa
set_option linter.unusedVariables false
set_option linter.unusedSimpArgs false
open Go.RowKit Go.Proofs.YtopfjmeejpamjaaW.PrintWords Go.Proofs.YtopfjmeejpamjaaW.PrintLast Go.Proofs.YtopfjmeejpamjaaW.PrintMore
namespace Disk
open Go.Disk PDiskDoes PSuper
end Disk
end Go.Proofs.Ytopfjmeejpamjaa
namespace Go.Proofs.Ytopfjmeejpamjaa
set_option linter.unusedVariables false
set_option linter.unusedSimpArgs false
open Go.RowKit Go.Proofs.YtopfjmeejpamjaaW.PrintWords Go.Proofs.YtopfjmeejpamjaaW.PrintLast Go.Proofs.YtopfjmeejpamjaaW.PrintMore
namespace Disk
open Go.Disk PDiskDoes PSuper
end Disk
end Go.Proofs.Ytopfjmeejpamjaa
end
section
namespace Go.Proofs.Ytopfjmeejpamjaa
set_option linter.unusedVariables false
set_option linter.unusedSimpArgs false
open Go.RowKit Go.Proofs.YtopfjmeejpamjaaW.PrintWords Go.Proofs.YtopfjmeejpamjaaW.PrintLast Go.Proofs.YtopfjmeejpamjaaW.PrintMore
namespace Disk
open Go.Disk PDiskDoes PSuper
end Disk
end Go.Proofs.Ytopfjmeejpamjaa
namespace Go.Proofs.Ytopfjmeejpamjaa
set_option linter.unusedVariables false
set_option linter.unusedSimpArgs false
open Go.RowKit Go.Proofs.YtopfjmeejpamjaaW.PrintWords Go.Proofs.YtopfjmeejpamjaaW.PrintLast Go.Proofs.YtopfjmeejpamjaaW.PrintMore
namespace Disk
open Go.Disk PDiskDoes PSuper
end Disk
end Go.Proofs.Ytopfjmeejpamjaa
namespace Go.Proofs.Ytopfjmeejpamjaa
set_option linter.unusedVariables false
set_option linter.unusedSimpArgs false
open Go.RowKit Go.Proofs.YtopfjmeejpamjaaW.PrintWords Go.Proofs.YtopfjmeejpamjaaW.PrintLast Go.Proofs.YtopfjmeejpamjaaW.PrintMore
namespace Disk
open Go.Disk PDiskDoes PSuper
abbrev FB (base db sb xb : Nat) (w w' : World) : Prop := Fr (fun k => k = db ∨ k = sb ∨ k = xb) (fun k t => base ≤ k ∧ (t = 94 ∨ t = 26 ∨ t = 117)) w w'
theorem FB.of_below {base db sb xb : Nat} {w w' : World} (f : Below w.heap.size w w') : FB base db sb xb w w' := Fr.of_below f
theorem FB.below {base db sb xb : Nat} {w w' : World} (f : FB base db sb xb w w') (hd : base ≤ db) (hs : base ≤ sb) (hx : base ≤ xb) (hw : base ≤ w.heap.size) : Below base w w' := ⟨f.os, f.tape, f.output, f.size, fun k hk => f.block k (by omega) (by rintro (h | h | h) <;> omega) (fun _ _ _ _ h => by omega)⟩
structure Both (w : World) (base db sb xb : Nat) (D : Dk) : Prop where
  pd : PD w base db sb D
  rd : RD w base sb xb D
  bs : base ≤ w.heap.size
theorem Both.low {w : World} {base db sb xb : Nat} {D : Dk} (h : Both w base db sb xb D) : base ≤ db ∧ base ≤ sb ∧ base ≤ xb := by
  obtain ⟨⟨_, _, _, p⟩, ⟨_, _, r⟩, _⟩ := h
  exact ⟨p.dbase, p.sbase, r.xbase⟩
theorem Both.lt {w : World} {base db sb xb : Nat} {D : Dk} (h : Both w base db sb xb D) : db < w.heap.size ∧ sb < w.heap.size ∧ xb < w.heap.size := by
  obtain ⟨⟨_, _, _, p⟩, ⟨_, _, r⟩, _⟩ := h
  exact ⟨blk_lt p.cells, blk_lt p.safe, blk_lt r.cells⟩
theorem Both.below {w w' : World} {base db sb xb : Nat} {D : Dk} (h : Both w base db sb xb D) (b : Below w.heap.size w w') : Both w' base db sb xb D := ⟨h.pd.below b, h.rd.below b, Nat.le_trans h.bs b.size⟩
theorem Both.ok {w : World} {base db sb xb : Nat} {D : Dk} (h : Both w base db sb xb D) : Ok D := h.pd.ok
theorem Both.fp {w w' : World} {base db sb xb : Nat} {D : Dk} (h : Both w base db sb xb D) (f : FP base db sb w w') : RD w' base sb xb D := by
  obtain ⟨⟨_, _, _, p⟩, ⟨vs, vw, r⟩, _⟩ := h
  exact ⟨vs, vw, r.fp p.cells p.safe f⟩
theorem PD.fx {w w' : World} {base db sb xb : Nat} {D D' : Dk} (p : PD w base db sb D) (r : RD w base sb xb D') (f : FX base xb w w') : PD w' base db sb D := by
  obtain ⟨_, _, _, p⟩ := p
  obtain ⟨vs, vw, r⟩ := r
  exact ⟨_, _, _, p.fx r.cells f⟩
def dat (odd : Bool) (bs : List Int) : List Int := if odd then bs else blockOf bs
def flushF (D : Dk) : Dk := if ready D 0 ≠ 0 then D else if D.left = 0 then deedD D else flushD (deedD D)
def doD (D : Dk) (K N : Int) (bs : List Int) (odd : Bool) (ms : List Int) : Dk :=
  if K = 1 then (if ready D N = 0 then readD D else D)
  else if K = 2 then (writeD D N (dat odd bs)).1
  else if K = 3 then flushF D
  else if K = 4 then (if N < 0 then D else stopD D N)
  else if K = 5 then crashD D ms
  else D
end Disk
end Go.Proofs.Ytopfjmeejpamjaa
namespace Go.Proofs.Ytopfjmeejpamjaa
set_option linter.unusedVariables false
set_option linter.unusedSimpArgs false
open Go.RowKit Go.Proofs.YtopfjmeejpamjaaW.PrintWords Go.Proofs.YtopfjmeejpamjaaW.PrintLast Go.Proofs.YtopfjmeejpamjaaW.PrintMore
namespace Disk
open Go.Disk PDiskDoes PSuper
end Disk
end Go.Proofs.Ytopfjmeejpamjaa
end
section
namespace Go.Proofs.Ytopfjmeejpamjaa
set_option linter.unusedVariables false
set_option linter.unusedSimpArgs false
open Go.RowKit Go.Proofs.YtopfjmeejpamjaaW.PrintWords Go.Proofs.YtopfjmeejpamjaaW.PrintLast Go.Proofs.YtopfjmeejpamjaaW.PrintMore
namespace Disk
open Go.Disk PDiskDoes PSuper
def readF (D : Dk) (N : Int) : Dk := if ready D N = 0 then readD D else D
def readV (D : Dk) (N : Int) : List Int := if ready D N = 0 then nowD D N else []
theorem read_uni {w : World} {base db sb : Nat} {D : Dk} (h : PD w base db sb D) (N : Int) (hfew : D.waits.length ≤ 1000000000) :
    Calls Try.prog 39 #[.pointer (some ⟨db, 0, none⟩), .int .i64 N] w fun e w' => ∃ v, e = .returned (.tuple #[v, .int .i64 (ready D N)]) ∧ Kd.R (Kd.int .u8) 5 w' w.heap.size (fun _ => True) v (readV D N) ∧ PD w' base db sb (readF D N) ∧ FP base db sb w w' := by
  unfold readF readV
  by_cases hr : ready D N = 0
  · rw [if_pos hr, if_pos hr]
    refine (read_yes h N hr hfew).mono ?_
    rintro e w' ⟨v, he, hv, p, f⟩
    exact ⟨v, by rw [hr]; exact he, hv, p, f⟩
  · rw [if_neg hr, if_neg hr]
    refine (read_no h N hr).mono ?_
    rintro e w' ⟨he, rfl⟩
    exact ⟨_, he, Kd.R_nil _ _ _ _ _, h, .refl _ _ _⟩
theorem write_ready {D : Dk} {N : Int} {bs : List Int} (hr : ready D N ≠ 0) : writeD D N bs = (D, ready D N) := by unfold writeD; rw [if_pos hr]
theorem write_long {D : Dk} {N : Int} {bs : List Int} (hr : ready D N = 0) (hl : bs.length ≠ 256) : writeD D N bs = (D, 11) := by unfold writeD; rw [if_neg (by omega), if_pos hl]
theorem write_uni {w : World} {base db sb : Nat} {D : Dk} (h : PD w base db sb D) (N : Int) (A : Option Addr) (c : Nat) (bs : List Int) (hby : ∀ x ∈ bs, 0 ≤ x ∧ x ≤ 255) (hC : ∀ x, Below w.heap.size w x → Kd.C (Kd.int .u8) x A bs.length bs) (hfew : D.waits.length ≤ 1000000) :
    Calls Try.prog 40 #[.pointer (some ⟨db, 0, none⟩), .int .i64 N, .slice A bs.length c] w fun e w' => e = .returned (.int .i64 (writeD D N bs).2) ∧ PD w' base db sb (writeD D N bs).1 ∧ FP base db sb w w' := by
  by_cases hr : ready D N = 0
  · by_cases hl : bs.length = 256
    · obtain ⟨a, rfl⟩ : ∃ a, A = some a := by obtain ⟨a, ha, _⟩ := (hC _ (Below.refl _ _)).2.2 (by omega); exact ⟨a, ha⟩
      exact write_yes h N hr a c bs hl hby hC hfew
    · rw [write_long hr hl]
      refine (write_size h N hr A _ c hl).mono ?_
      rintro e w' ⟨he, rfl⟩
      exact ⟨he, h, .refl _ _ _⟩
  · rw [write_ready hr]
    refine (write_no h N hr A _ c).mono ?_
    rintro e w' ⟨he, rfl⟩
    exact ⟨he, h, .refl _ _ _⟩
def flushR (D : Dk) : Int := if ready D 0 ≠ 0 then ready D 0 else if D.left = 0 then 9 else 0
theorem flush_uni {w : World} {base db sb : Nat} {D : Dk} (h : PD w base db sb D) (hfew : D.waits.length ≤ 1000000) :
    Calls Try.prog 46 #[.pointer (some ⟨db, 0, none⟩)] w fun e w' => e = .returned (.int .i64 (flushR D)) ∧ PD w' base db sb (flushF D) ∧ FP base db sb w w' := by
  unfold flushR flushF
  by_cases hr : ready D 0 ≠ 0
  · rw [if_pos hr, if_pos hr]
    refine (flush_no h hr).mono ?_
    rintro e w' ⟨he, rfl⟩
    exact ⟨he, h, .refl _ _ _⟩
  · rw [if_neg hr, if_neg hr]
    have hr0 : ready D 0 = 0 := by omega
    by_cases hl : D.left = 0
    · rw [if_pos hl, if_pos hl]
      exact flush_stop h hr0 hl
    · rw [if_neg hl, if_neg hl]
      exact flush_yes h hr0 hl hfew
structure Pair (w : World) (base db sb xb : Nat) (D X : Dk) : Prop where
  pd : PD w base db sb D
  rd : RD w base sb xb X
  bs : base ≤ w.heap.size
theorem Pair.low {w : World} {base db sb xb : Nat} {D X : Dk} (h : Pair w base db sb xb D X) : base ≤ db ∧ base ≤ sb ∧ base ≤ xb := by
  obtain ⟨⟨_, _, _, p⟩, ⟨_, _, r⟩, _⟩ := h
  exact ⟨p.dbase, p.sbase, r.xbase⟩
theorem Pair.lt {w : World} {base db sb xb : Nat} {D X : Dk} (h : Pair w base db sb xb D X) : db < w.heap.size ∧ sb < w.heap.size ∧ xb < w.heap.size := by
  obtain ⟨⟨_, _, _, p⟩, ⟨_, _, r⟩, _⟩ := h
  exact ⟨blk_lt p.cells, blk_lt p.safe, blk_lt r.cells⟩
theorem Pair.below {w w' : World} {base db sb xb : Nat} {D X : Dk} (h : Pair w base db sb xb D X) (b : Below w.heap.size w w') : Pair w' base db sb xb D X := ⟨h.pd.below b, h.rd.below b, Nat.le_trans h.bs b.size⟩
theorem Pair.fp {w w' : World} {base db sb xb : Nat} {D X : Dk} (h : Pair w base db sb xb D X) (f : FP base db sb w w') : RD w' base sb xb X := by
  obtain ⟨⟨_, _, _, p⟩, ⟨vs, vw, r⟩, _⟩ := h
  exact ⟨vs, vw, r.fp p.cells p.safe f⟩
end Disk
end Go.Proofs.Ytopfjmeejpamjaa
end
section
namespace Go.Proofs.Ytopfjmeejpamjaa
set_option linter.unusedVariables false
set_option linter.unusedSimpArgs false
open Go.RowKit Go.Proofs.YtopfjmeejpamjaaW.PrintWords
namespace Op
open Go.ChangeShapes Go.WideShapes
section
variable {H : Type} {enc : TypeId × Value → H} {P : Program} {w : World} {base : Nat} {spare : Nat → Bool} {held : Bool}
theorem open_rows {α : Type} (d : Kd α) (good : α → Prop) {t e : TypeId} (ht : P.underlying t = some (.slice e)) (ce : P.cellsOf e = d.sz)
    (hel : ∀ fuel cs y, DataW.trod enc P w base spare held fuel e cs = some y → ∃ x, d.K w x cs ∧ good x)
    {fuel : Nat} {cs : List Value} {x : DataW H × List MemPlace} (h : DataW.trod enc P w base spare held fuel t cs = some x) :
    ∃ A c, ∃ ys : List α, cs = [.slice A ys.length c] ∧ ys.length ≤ c ∧ d.C w A ys.length ys ∧ (∀ y ∈ ys, good y) ∧ ys.length ≤ maxLen := by
  rcases Go.Deep.open_slice ht h with ⟨rfl, _⟩ | ⟨a, len, cap, m, k, D, Pl, rfl, _, hl, hm, hmm, _, hx⟩
  · exact ⟨none, 0, [], rfl, Nat.le_refl _, ⟨rfl, by simp, fun h => by simp at h⟩, by simp, by simp⟩
  · have hlm : len ≤ m := by rw [hmm]; split <;> omega
    have each : ∀ i, i < len → ∃ y : α, good y ∧ ∃ c, c.length = d.sz ∧ d.K w y c ∧ ∀ j u, c[j]? = some u → w.cell? (a.add (i * d.sz + j)) = some u := by
      intro i hi
      obtain ⟨cs', h1, h2⟩ := hx i (by omega)
      obtain ⟨y, hk, hg⟩ := hel _ _ _ h2
      obtain ⟨_, hlen, hcell⟩ := World.cells?_some h1
      refine ⟨y, hg, cs', by rw [hlen, ce], hk, fun j u hu => ?_⟩
      have hj : j < cs'.length := by
        rcases Nat.lt_or_ge j cs'.length with h' | h'
        · exact h'
        · rw [List.getElem?_eq_none h'] at hu; cases hu
      have := hcell j (by omega)
      rw [hu, Go.Deep.add_add, ce] at this
      exact this
    obtain ⟨f, hf⟩ : ∃ f : Nat → Option α, ∀ i, i < len → ∃ y, f i = some y ∧ good y ∧ ∃ c, c.length = d.sz ∧ d.K w y c ∧ ∀ j u, c[j]? = some u → w.cell? (a.add (i * d.sz + j)) = some u := by
      classical
      refine ⟨fun i => if hi : i < len then some (each i hi).choose else none, fun i hi => ?_⟩
      refine ⟨(each i hi).choose, by simp only [dif_pos hi], (each i hi).choose_spec.1, (each i hi).choose_spec.2⟩
    have hlist : ∀ n, n ≤ len → ∃ ys : List α, ys.length = n ∧ ∀ i, i < n → ys[i]? = f i := by
      intro n
      induction n with
      | zero => exact fun _ => ⟨[], rfl, fun i h => by omega⟩
      | succ n ih =>
        intro hn
        obtain ⟨ys, h1, h2⟩ := ih (by omega)
        obtain ⟨y, hy, _⟩ := hf n (by omega)
        refine ⟨ys ++ [y], by simp [h1], fun i hi => ?_⟩
        rcases Nat.lt_or_ge i n with h' | h'
        · rw [List.getElem?_append_left (by omega)]; exact h2 i h'
        · have : i = n := by omega
          subst this
          rw [List.getElem?_append_right (by omega), h1, Nat.sub_self, hy]
          rfl
    obtain ⟨ys, h1, h2⟩ := hlist len (Nat.le_refl _)
    refine ⟨some a, cap, ys, by rw [h1], by omega, ⟨rfl, ?_, fun _ => ⟨a, rfl, fun j y hj => ?_⟩⟩, fun y hy => ?_, by omega⟩
    · have : maxLen ≤ 9223372036854775807 := by decide
      omega
    · have hjl : j < ys.length := by
        rcases Nat.lt_or_ge j ys.length with h' | h'
        · exact h'
        · rw [List.getElem?_eq_none h'] at hj; cases hj
      rw [h2 j (by omega)] at hj
      obtain ⟨y', e1, _, e2⟩ := hf j (by omega)
      rw [e1] at hj
      cases hj
      exact e2
    · obtain ⟨j, hj⟩ := List.getElem?_of_mem hy
      have hjl : j < ys.length := by
        rcases Nat.lt_or_ge j ys.length with h' | h'
        · exact h'
        · rw [List.getElem?_eq_none h'] at hj; cases hj
      rw [h2 j (by omega)] at hj
      obtain ⟨y', e1, e2, _⟩ := hf j (by omega)
      rw [e1] at hj
      cases hj
      exact e2
end
end Op
end Go.Proofs.Ytopfjmeejpamjaa
end
section
namespace Go.Proofs.Ytopfjmeejpamjaa
set_option linter.unusedVariables false
set_option linter.unusedSimpArgs false
open Go.RowKit Go.Proofs.YtopfjmeejpamjaaW.PrintWords Go.Proofs.YtopfjmeejpamjaaW.PrintLast Go.Proofs.YtopfjmeejpamjaaW.PrintMore
namespace Disk
open Go.Disk PDiskDoes PSuper
theorem below_steps {x y z : World} (h : Below x.heap.size x y) (k : Below y.heap.size y z) : Below x.heap.size x z := h.trans (k.mono h.size)
theorem str8 {w : World} {base : Nat} {ok : Nat → Prop} {A : Option Addr} {l c : Nat} {xs : List Int} (h : Kd.R (Kd.int .u8) 5 w base ok (.slice A l c) xs) (x : World) (b : Below w.heap.size w x) : (convert 26 9 (.slice A l c)).run Try.prog x = .ok (.string (strOfNums xs)) x := by
  have h2 := Kd.R_below h b
  obtain ⟨A2, c2, e⟩ := Kd.R_slice h2
  cases e
  exact Kd.C_string Try.underlying26 Try.underlying5 Try.underlying9 (row_at h2)
end Disk
end Go.Proofs.Ytopfjmeejpamjaa
namespace Go.Proofs.Ytopfjmeejpamjaa
set_option linter.unusedVariables false
set_option linter.unusedSimpArgs false
open Go.RowKit Go.Proofs.YtopfjmeejpamjaaW.PrintWords Go.Proofs.YtopfjmeejpamjaaW.PrintLast Go.Proofs.YtopfjmeejpamjaaW.PrintMore
namespace Disk
open Go.Disk PDiskDoes PSuper
theorem waits_deed (D : Dk) : (deedD D).waits = D.waits := by
  unfold deedD
  split <;> rfl
theorem crash_waits (D : Dk) (ms : List Int) : (crashD D ms).waits = [] := rfl
theorem waits_do (D : Dk) (K N : Int) (bs : List Int) (odd : Bool) (ms : List Int) : (doD D K N bs odd ms).waits.length ≤ D.waits.length + 1 := by
  unfold doD
  split
  · split
    · exact Nat.le_succ _
    · exact Nat.le_succ _
  split
  · unfold writeD
    split
    · exact Nat.le_succ _
    split
    · exact Nat.le_succ _
    split
    · show (deedD _).waits.length ≤ _
      rw [waits_deed]
      simp [waitD]
    · show (deedD _).waits.length ≤ _
      rw [waits_deed]
      simp [waitD]
  split
  · unfold flushF
    split
    · exact Nat.le_succ _
    split
    · rw [waits_deed]; exact Nat.le_succ _
    · exact Nat.zero_le _
  split
  · split
    · exact Nat.le_succ _
    · exact Nat.le_succ _
  split
  · rw [crash_waits]; exact Nat.zero_le _
  · exact Nat.le_succ _
structure Came (w : World) (A : Option Addr) (ys : List S61) : Prop where
  row : Kd.C k61 w A ys.length ys
  byte : ∀ y ∈ ys, (∀ x ∈ y.f2, 0 ≤ x ∧ x ≤ 255) ∧ y.f1 ≤ 9223372036854775807
theorem Came.below {w w' : World} {A : Option Addr} {ys : List S61} (h : Came w A ys) (b : Below w.heap.size w w') : Came w' A ys := ⟨Kd.C_below h.row b, h.byte⟩
theorem Came.at_ {w0 : World} {A : Option Addr} {ys : List S61} (h : Came w0 A ys) (i : Nat) (hi : i < ys.length) :
    ∃ ad A2 c2 A4 c4, A = some ad ∧ (∀ x, Below w0.heap.size w0 x → x.cell? (ad.add (i * 5)) = some (.int .i64 (rd_T61 ys i).f0) ∧ x.cell? ⟨(ad.add (i * 5)).block, (ad.add (i * 5)).off + 1, none⟩ = some (.int .i64 (rd_T61 ys i).f1) ∧ x.cell? ⟨(ad.add (i * 5)).block, (ad.add (i * 5)).off + 2, none⟩ = some (.slice A2 (rd_T61 ys i).f2.length c2) ∧ x.cell? ⟨(ad.add (i * 5)).block, (ad.add (i * 5)).off + 3, none⟩ = some (.bool (rd_T61 ys i).f3) ∧ x.cell? ⟨(ad.add (i * 5)).block, (ad.add (i * 5)).off + 4, none⟩ = some (.slice A4 (rd_T61 ys i).f4.length c4) ∧ (Kd.int .u8).C x A2 (rd_T61 ys i).f2.length (rd_T61 ys i).f2 ∧ (Kd.int .i64).C x A4 (rd_T61 ys i).f4.length (rd_T61 ys i).f4) ∧ (rd_T61 ys i).f2.length ≤ c2 ∧ (rd_T61 ys i).f4.length ≤ c4 ∧ (∀ x ∈ (rd_T61 ys i).f2, 0 ≤ x ∧ x ≤ 255) ∧ (rd_T61 ys i).f1 ≤ 9223372036854775807 := by
  obtain ⟨ad, A2, c2, A4, c4, rfl, h0, h1, h2, h3, h4, l2, g2, l4, g4⟩ := at_T61 h.row (i : Int) (by omega) (by omega)
  rw [Int.toNat_natCast] at h0 h1 h2 h3 h4
  have hm : rd_T61 ys (i : Int) ∈ ys := by
    unfold rd_T61
    rw [Int.toNat_natCast, List.getD_eq_getElem?_getD, List.getElem?_eq_getElem hi]
    exact List.getElem_mem hi
  obtain ⟨hb, hN⟩ := h.byte _ hm
  exact ⟨ad, A2, c2, A4, c4, rfl, fun x hx => ⟨pw_cell_below hx h0, pw_cell_below hx h1, pw_cell_below hx h2, pw_cell_below hx h3, pw_cell_below hx h4, Kd.C_below g2 hx, Kd.C_below g4 hx⟩, l2, l4, hb, hN⟩
end Disk
end Go.Proofs.Ytopfjmeejpamjaa
end
section
namespace Go.Proofs.Ytopfjmeejpamjaa
set_option linter.unusedVariables false
set_option linter.unusedSimpArgs false
open Go.RowKit Go.Proofs.YtopfjmeejpamjaaW.PrintWords Go.Proofs.YtopfjmeejpamjaaW.PrintLast Go.Proofs.YtopfjmeejpamjaaW.PrintMore
namespace Disk
open Go.Disk PDiskDoes PSuper
def skip (n : Int) (y : S61) : Bool := y.f0 == 2 && y.f1 == n
end Disk
end Go.Proofs.Ytopfjmeejpamjaa
end
section
namespace Go.Proofs.Ytopfjmeejpamjaa
set_option linter.unusedVariables false
set_option linter.unusedSimpArgs false
open Go.RowKit Go.Proofs.YtopfjmeejpamjaaW.PrintWords Go.Proofs.YtopfjmeejpamjaaW.PrintLast Go.Proofs.YtopfjmeejpamjaaW.PrintMore
namespace Disk
open Go.Disk PDiskDoes PSuper
set_option maxRecDepth 100000 in
theorem ready_nil (n : Int) (w : World) : Calls Try.prog 76 #[.pointer none, .int .i64 n] w fun e w' => e = .returned (.int .i64 8) ∧ w' = w := by
  go_enter Try.func76, Try.ntmps76
  go_wp2_with fail
  go_ret
  exact ⟨rfl, rfl⟩
set_option maxHeartbeats 8000000 in
set_option maxRecDepth 100000 in
theorem read_nil (w : World) : Calls Try.prog 39 #[.pointer none, .int .i64 0] w fun e w' => e = .returned (.tuple #[.slice none 0 0, .int .i64 8]) ∧ w' = w := by
  go_enter Try.func39, Try.ntmps39
  go_wp2_with fail
  refine (ready_nil 0 _).mono ?_
  rintro e w1 ⟨rfl, rfl⟩
  go_wp2_with fail
  go_ret2
  exact ⟨rfl, rfl⟩
end Disk
end Go.Proofs.Ytopfjmeejpamjaa
end
section
namespace Go.Proofs.Ytopfjmeejpamjaa
set_option linter.unusedVariables false
set_option linter.unusedSimpArgs false
set_option linter.ambiguousOpen false
open Go.RowKit Go.Proofs.YtopfjmeejpamjaaW.PrintWords Go.Proofs.YtopfjmeejpamjaaW.PrintLast Go.Proofs.YtopfjmeejpamjaaW.PrintMore
namespace Supr
open Go.Num Go.Crc Go.Proofs.Ytopfjmeejpamjaa.Cell Go.Proofs.Ytopfjmeejpamjaa.Sect
def zerosB (l : List Int) : Bool := l.all (fun x => x == 0)
set_option maxRecDepth 100000 in
theorem zero_any (x : Int) (w : World) : Calls Try.prog 50 #[.int .u8 x] w fun e w' => e = .returned (.bool (x == 0)) ∧ w' = w := by
  go_enter Try.func50, Try.ntmps50
  go_wp2_with fail
  go_ret
  exact ⟨rfl, rfl⟩
set_option maxRecDepth 100000 in
theorem notzero_any (x : Int) (w : World) : Calls Try.prog 49 #[.int .u8 x] w fun e w' => e = .returned (.bool (!(x == 0))) ∧ w' = w := by
  obtain ⟨z, hz⟩ : ∃ z, z = (x == 0) := ⟨_, rfl⟩
  have h0 := zero_any x w
  rw [← hz] at h0 ⊢
  have H0 := Aside0.mk h0
  clear hz h0
  go_enter Try.func49, Try.ntmps49
  go_wp2_with fail
  refine H0.out.mono ?_
  rintro e w1 ⟨rfl, rfl⟩
  go_wp2_with fail
  go_ret
  exact ⟨rfl, rfl⟩
set_option maxHeartbeats 8000000 in
set_option maxRecDepth 100000 in
theorem index_any {w : World} (A : Option Addr) (c : Nat) (l : List Int) (hC : Kd.C (Kd.int .u8) w A l.length l) (hl : l.length ≤ 200000) :
    Calls Try.prog 82 #[.slice A l.length c, .func (.func 49) #[] #[]] w fun e w' => ∃ i : Int, e = .returned (.int .i64 i) ∧ decide (0 ≤ i) = !zerosB l ∧ w' = w := by
  have HC := Aside0.mk hC
  have HL := Aside0.mk hl
  obtain ⟨n, hn⟩ : ∃ n, n = l.length := ⟨_, rfl⟩
  have HN := Aside0.mk hn
  rw [← hn]
  clear hC hl hn
  go_enter Try.func82, Try.ntmps82
  go_wp2_with fail
  go_loopg [8] n (fun gk v8 wr => ∃ (i : Nat), Aside0 (i + gk = n) ∧ v8 = .int .i64 i ∧ Aside0 (∀ j (h : j < l.length), j < i → l[j] = 0) ∧ wr = w)
  case atStart => exact ⟨0, ⟨by omega⟩, rfl, ⟨fun j _ h => absurd h (by omega)⟩, rfl⟩
  case round =>
    obtain ⟨i, HI, rfl, HZ, rfl⟩ := hrel
    by_cases hi : i < n
    · have hil : i < l.length := by rw [← HN.out]; exact hi
      obtain ⟨ad, hadA, hc0⟩ := Kd.at_int HC.out (i : Int) (by omega) (by omega)
      cases hadA
      rw [Int.toNat_natCast] at hc0
      obtain ⟨x, hx⟩ : ∃ x, x = rd l (i : Int) := ⟨_, rfl⟩
      rw [← hx] at hc0
      have HX := Aside0.mk hx
      have hii : (i : Int) < (n : Int) := by omega
      clear hx hil
      go_wp2_with fail
      by_cases h0 : x = 0
      · subst h0
        refine (notzero_any 0 _).mono ?_
        rintro e w1 ⟨rfl, hw1⟩
        obtain rfl : w1 = wr := hw1
        go_wp2_with fail
        go_roundg (n - (i + 1))
        case measure => have := HI.out; omega
        case rel =>
          refine ⟨i + 1, ⟨by have := HI.out; omega⟩, ?_, ⟨fun j hj hji => ?_⟩, rfl⟩
          · have := HL.out; have := HN.out
            rw [show wrap64 ((i : Int) + 1) = ((i + 1 : Nat) : Int) by unfold wrap64; omega]
          · rcases Nat.lt_succ_iff_lt_or_eq.1 hji with h | h
            · exact HZ.out j hj h
            · subst h; rw [← rd_get j hj]; exact HX.out.symm
      · have hb : (x == 0) = false := by simpa using h0
        have HNZ := Aside0.mk (show zerosB l = false by
          cases hz : zerosB l with
          | false => rfl
          | true =>
            unfold zerosB at hz
            rw [List.all_eq_true] at hz
            have hil : i < l.length := by rw [← HN.out]; exact hi
            have := hz l[i] (List.getElem_mem _)
            rw [← rd_get i hil, ← HX.out] at this
            exact absurd (by simpa using this) h0)
        have hnz := notzero_any x wr
        rw [hb] at hnz
        refine hnz.mono ?_
        rintro e w1 ⟨rfl, hw1⟩
        obtain rfl : w1 = wr := hw1
        clear hnz
        go_wp2_with fail
        go_ret
        exact ⟨i, rfl, by rw [HNZ.out]; simp, rfl⟩
    · have hi2 : i = n := by have := HI.out; omega
      subst hi2
      have HNZ := Aside0.mk (show zerosB l = true by
        unfold zerosB
        rw [List.all_eq_true]
        intro y hy
        obtain ⟨j, hj, rfl⟩ := List.mem_iff_getElem.1 hy
        rw [HZ.out j hj (by rw [HN.out]; exact hj)]
        rfl)
      clear hi
      go_wp2_with fail
      go_ret
      exact ⟨-1, rfl, by rw [HNZ.out]; rfl, rfl⟩
set_option maxHeartbeats 8000000 in
set_option maxRecDepth 100000 in
theorem contains_any {w : World} (A : Option Addr) (c : Nat) (l : List Int) (hC : Kd.C (Kd.int .u8) w A l.length l) (hl : l.length ≤ 200000) :
    Calls Try.prog 48 #[.slice A l.length c, .func (.func 49) #[] #[]] w fun e w' => e = .returned (.bool (!zerosB l)) ∧ w' = w := by
  obtain ⟨n, hn⟩ : ∃ n, n = l.length := ⟨_, rfl⟩
  have hix := index_any A c l hC hl
  obtain ⟨z, hz⟩ : ∃ z, z = (!zerosB l) := ⟨_, rfl⟩
  rw [← hn, ← hz] at hix
  rw [← hn, ← hz]
  have HX := Aside0.mk hix
  clear hix hz hC hl hn
  go_enter Try.func48, Try.ntmps48
  go_wp2_with fail
  refine HX.out.mono ?_
  rintro e w1 ⟨i, rfl, rfl, rfl⟩
  go_wp2_with fail
  go_ret
  exact ⟨rfl, rfl⟩
theorem PDx_other {w : World} {base db sb cs : Nat} {D : Go.Disk.Dk} {vw : Value} {sp : List Value} (h : Disk.PDx w base db sb D vw cs sp) {ub : Nat} {uc : Array Value} (hu : w.heap[ub]? = some (.cells uc 25 (0, 0))) (k : Nat) (v : Value) : Disk.PDx (w.setCell ⟨ub, k, none⟩ v) base db sb D vw cs sp :=
  ⟨h.ok, h.dbase, h.sbase, h.wown, (Below.heap_setCell _ _ _ _ (tag_ne h.cells hu (by decide))).trans h.cells, Kd.R_set h.waits hu (by decide) k v, (Below.heap_setCell _ _ _ _ (tag_ne h.safe hu (by decide))).trans h.safe, h.room⟩
theorem PD_six {w : World} {base db sb : Nat} {D : Go.Disk.Dk} (h : Disk.PD w base db sb D) {ub : Nat} {a0 a1 a2 a3 a4 a5 : Value} (hu : w.heap[ub]? = some (.cells #[a0, a1, a2, a3, a4, a5] 25 (0, 0))) (v0 v1 v2 v3 v4 v5 : Value) : Disk.PD ((((((w.setCell ⟨ub, 0, none⟩ v0).setCell ⟨ub, 1, none⟩ v1).setCell ⟨ub, 2, none⟩ v2).setCell ⟨ub, 3, none⟩ v3).setCell ⟨ub, 4, none⟩ v4).setCell ⟨ub, 5, none⟩ v5) base db sb D := by
  obtain ⟨vw, cs, sp, h⟩ := h
  have h1 := blk_set hu 0 v0
  have h2 := blk_set h1 1 v1
  have h3 := blk_set h2 2 v2
  have h4 := blk_set h3 3 v3
  have h5 := blk_set h4 4 v4
  exact ⟨vw, cs, sp, PDx_other (PDx_other (PDx_other (PDx_other (PDx_other (PDx_other h hu 0 v0) h1 1 v1) h2 2 v2) h3 3 v3) h4 4 v4) h5 5 v5⟩
theorem Fr_then {bs : Nat → Prop} {ts : Nat → Nat → Prop} {x y z : World} (h : Disk.Fr bs ts x y) (k : Below x.heap.size y z) : Disk.Fr bs ts x z :=
  ⟨k.os.trans h.os, k.tape.trans h.tape, k.output.trans h.output, Nat.le_trans h.size k.size, fun i hi hne ht => (k.block i hi).trans (h.block i hi hne ht)⟩
theorem pd_tags {w : World} {base db sb : Nat} {D : Go.Disk.Dk} (h : Disk.PD w base db sb D) : (∃ cs, w.heap[db]? = some (.cells cs 91 (0, 0))) ∧ (∃ cs, w.heap[sb]? = some (.cells cs 5 (0, 0))) := by
  obtain ⟨vw, cs, sp, h⟩ := h
  exact ⟨⟨_, h.cells⟩, _, h.safe⟩
theorem keep_super {w w' : World} {base db sb ub : Nat} {D : Go.Disk.Dk} {uc : Array Value} (h : Disk.PD w base db sb D) (f : Disk.FP base db sb w w') (hu : w.heap[ub]? = some (.cells uc 25 (0, 0))) : w'.heap[ub]? = some (.cells uc 25 (0, 0)) := by
  obtain ⟨⟨_, h1⟩, _, h2⟩ := pd_tags h
  exact (f.block ub (blk_lt hu) (fun e => e.elim (fun e => tag_ne hu h1 (by decide) e) (fun e => tag_ne hu h2 (by decide) e)) (fun c t fz hc e => by
    rw [hu] at hc
    cases hc
    exact absurd e.2 (by decide))).trans hu
def better (n : Nat) (best : SU) (k : Int) (r : SU × Int) : SU := if r.2 = 0 ∧ r.1.b = n ∧ Int.tmod r.1.g 2 = k ∧ best.g < r.1.g then r.1 else best
def scanU (D : Go.Disk.Dk) : Nat → Go.Disk.Dk × SU × Bool
  | 0 => (D, zeroU, true)
  | k + 1 => (Disk.readF (scanU D k).1 k, better D.safe.length (scanU D k).2.1 k (getU ((Disk.readV (scanU D k).1 k).take 64)), (scanU D k).2.2 && zerosB (Disk.readV (scanU D k).1 k))
def readU (D : Go.Disk.Dk) : SU × Int := if Go.Disk.ready D 0 ≠ 0 then (zeroU, Go.Disk.ready D 0) else ((scanU D 2).2.1, if 0 < (scanU D 2).2.1.g then 0 else if (scanU D 2).2.2 then 6 else 13)
def readDk (D : Go.Disk.Dk) : Go.Disk.Dk := if Go.Disk.ready D 0 ≠ 0 then D else (scanU D 2).1
structure RU (w0 w : World) (base db sb bb : Nat) (D : Go.Disk.Dk) (best : SU) : Prop where
  fp : Disk.FP base db sb w0 w
  zero : w.heap[w0.heap.size]? = some (.cells (sixU 0 0 0 0 0 0) 25 (0, 0))
  best : w.heap[bb]? = some (.cells (sixU best.g best.b best.l best.p best.q best.o) 25 (0, 0))
  pd : Disk.PD w base db sb D
  far : w0.heap.size < bb
theorem RU.step {w0 w w' : World} {base db sb bb : Nat} {D : Go.Disk.Dk} {best : SU} (h : RU w0 w base db sb bb D best) (f : Below w.heap.size w w') : RU w0 w' base db sb bb D best :=
  ⟨h.fp.trans (.of_below f), (f.block _ (blk_lt h.zero)).trans h.zero, (f.block _ (blk_lt h.best)).trans h.best, h.pd.below f, h.far⟩
theorem RU.read {w0 w w' : World} {base db sb bb : Nat} {D D' : Go.Disk.Dk} {best : SU} (h : RU w0 w base db sb bb D best) (f : Disk.FP base db sb w w') (p : Disk.PD w' base db sb D') : RU w0 w' base db sb bb D' best :=
  ⟨h.fp.trans f, keep_super h.pd f h.zero, keep_super h.pd f h.best, p, h.far⟩
theorem RU.set {w0 w : World} {base db sb bb : Nat} {D : Go.Disk.Dk} {best : SU} (h : RU w0 w base db sb bb D best) (s : SU) : RU w0 ((((((w.setCell ⟨bb, 0, none⟩ (.int .i64 s.g)).setCell ⟨bb, 1, none⟩ (.int .i64 s.b)).setCell ⟨bb, 2, none⟩ (.int .i64 s.l)).setCell ⟨bb, 3, none⟩ (.int .i64 s.p)).setCell ⟨bb, 4, none⟩ (.int .i64 s.q)).setCell ⟨bb, 5, none⟩ (.int .i64 s.o)) base db sb bb D s :=
  ⟨Fr_then h.fp (six_below (Below.refl _ w) (Nat.le_of_lt h.far) _ _ _ _ _ _), (six_but _ _ _ _ _ _ _ (Nat.ne_of_lt h.far)).trans h.zero, six_set h.best _ _ _ _ _ _, PD_six h.pd h.best _ _ _ _ _ _, h.far⟩
theorem ready_two (D : Go.Disk.Dk) (h : Go.Disk.Ok D) (k : Nat) (hk : k < 2) : Go.Disk.ready D k = Go.Disk.ready D 0 := by
  have := h.few
  unfold Go.Disk.ready
  cases D.off with
  | true => rfl
  | false =>
    simp only [Bool.false_eq_true, if_false]
    rw [if_neg (by omega), if_neg (by omega)]
theorem readF_same (D : Go.Disk.Dk) (k : Int) : (Disk.readF D k).safe = D.safe ∧ (Disk.readF D k).off = D.off ∧ (Disk.readF D k).waits = D.waits := by
  unfold Disk.readF
  split <;> exact ⟨rfl, rfl, rfl⟩
theorem scan_same (D : Go.Disk.Dk) : ∀ k, (scanU D k).1.safe = D.safe ∧ (scanU D k).1.off = D.off ∧ (scanU D k).1.waits = D.waits
  | 0 => ⟨rfl, rfl, rfl⟩
  | k + 1 => by
    obtain ⟨h1, h2, h3⟩ := readF_same (scanU D k).1 k
    obtain ⟨k1, k2, k3⟩ := scan_same D k
    exact ⟨h1.trans k1, h2.trans k2, h3.trans k3⟩
theorem ready_same {D E : Go.Disk.Dk} (h1 : E.safe = D.safe) (h2 : E.off = D.off) (n : Int) : Go.Disk.ready E n = Go.Disk.ready D n := by
  unfold Go.Disk.ready
  rw [h1, h2]
end Supr
end Go.Proofs.Ytopfjmeejpamjaa
end
section
namespace Go.Proofs.Ytopfjmeejpamjaa
set_option linter.unusedVariables false
set_option linter.unusedSimpArgs false
set_option linter.ambiguousOpen false
open Go.RowKit Go.Proofs.YtopfjmeejpamjaaW.PrintWords Go.Proofs.YtopfjmeejpamjaaW.PrintLast Go.Proofs.YtopfjmeejpamjaaW.PrintMore
namespace Supr
open Go.Num Go.Crc Go.Proofs.Ytopfjmeejpamjaa.Cell Go.Proofs.Ytopfjmeejpamjaa.Sect
theorem head_C {w : World} {a : Addr} {l : List Int} (h : Kd.C (Kd.int .u8) w (some a) l.length l) (m : Nat) (hm : m ≤ l.length) : Kd.C (Kd.int .u8) w (some a) m (l.take m) := by
  have := mid_C h 0 m (by omega)
  rw [List.drop_zero, show a.add 0 = a by unfold Addr.add; split <;> simp_all] at this
  exact this
set_option maxHeartbeats 16000000 in
set_option maxRecDepth 100000 in
theorem sread_any {w : World} {base db sb : Nat} {D : Go.Disk.Dk} (h : Disk.PD w base db sb D) (hfew : D.waits.length ≤ 1000000) :
    Calls Try.prog 18 #[.pointer (some ⟨db, 0, none⟩)] w fun r w' => r = .returned (.tuple #[(readU D).1.v, .int .i64 (readU D).2]) ∧ Disk.PD w' base db sb (readDk D) ∧ Disk.FP base db sb w w' := by
  have HP := Aside0.mk h
  have HFW := Aside0.mk hfew
  have HOK := Aside0.mk h.ok
  obtain ⟨w1, hw1⟩ : ∃ w1, w1 = (w.alloc (.cells (sixU 0 0 0 0 0 0) 25)).alloc (.cells (sixU 0 0 0 0 0 0) 25) := ⟨_, rfl⟩
  have b1 : Below w.heap.size w w1 := by rw [hw1]; exact ((Below.refl _ _).alloc (Nat.le_refl _) _).alloc (by simp) _
  have HRU := Aside0.mk (show RU w w1 base db sb (w.heap.size + 1) D zeroU from ⟨.of_below b1, by
    rw [hw1, Below.heap_alloc _ _ _ (by simp)]
    exact heap_alloc_new w _, by
    rw [hw1]
    have := heap_alloc_new (w.alloc (.cells (sixU 0 0 0 0 0 0) 25)) (.cells (sixU 0 0 0 0 0 0) 25)
    rw [World.size_alloc] at this
    exact this, h.below b1, by omega⟩)
  have HW1 := Aside0.mk hw1
  clear h hfew hw1 b1
  obtain ⟨rd0, hrd⟩ : ∃ z, z = Go.Disk.ready D 0 := ⟨_, rfl⟩
  by_cases hr0 : rd0 ≠ 0
  · have HV := Aside0.mk (show readU D = (zeroU, rd0) by unfold readU; rw [if_pos (by rw [← hrd]; exact hr0), hrd])
    have HD := Aside0.mk (show readDk D = D by unfold readDk; rw [if_pos (by rw [← hrd]; exact hr0)])
    have HR0 := Aside0.mk hrd
    clear hrd
    go_enter Try.func18, Try.ntmps18
    go_wp2_with fail
    rw [← HW1.out]
    go_loopg [10, 5] 2 (fun gk v10 v5 wr => gk = 2 ∧ v10 = .int .i64 0 ∧ v5 = .bool true ∧ wr = w1)
    case atStart => exact ⟨rfl, rfl, rfl, rfl⟩
    case round =>
      obtain ⟨rfl, rfl, rfl, rfl⟩ := hrel
      go_wp2_with fail
      have hrd := Disk.read_no HRU.out.pd 0 (by rw [← HR0.out]; exact hr0)
      rw [← HR0.out] at hrd
      refine hrd.mono ?_
      clear hrd
      rintro r w2 ⟨rfl, hw2⟩
      obtain rfl : w2 = wr := hw2
      obtain ⟨⟨p0, p1, p2, p3, p4, p5⟩, q0, q1, q2, q3, q4, q5⟩ := cells6 HRU.out.zero
      obtain ⟨⟨e0, e1, e2, e3, e4, e5⟩, _⟩ := cells6 HRU.out.best
      go_wp2_with fail
      refine bodyPost_ret (results_ct rfl _ _ w.heap.size 25 (sixU 0 0 0 0 0 0) (0, 0) _ rfl (six_set HRU.out.zero _ _ _ _ _ _) Try.underlying25 rfl (by kernel_rfl)) rfl ?_
      exact ⟨by rw [HV.out]; rfl, by rw [HD.out]; exact PD_six HRU.out.pd HRU.out.zero _ _ _ _ _ _, Fr_then HRU.out.fp (six_below (Below.refl _ _) (Nat.le_refl _) _ _ _ _ _ _)⟩
  · have hr1 : rd0 = 0 := Classical.byContradiction hr0
    rw [hr1] at hrd
    have HR0 := Aside0.mk hrd
    have HV := Aside0.mk (show readU D = ((scanU D 2).2.1, if 0 < (scanU D 2).2.1.g then 0 else if (scanU D 2).2.2 then 6 else 13) by unfold readU; rw [if_neg (by rw [← hrd]; decide)])
    have HD := Aside0.mk (show readDk D = (scanU D 2).1 by unfold readDk; rw [if_neg (by rw [← hrd]; decide)])
    clear hrd hr1 hr0 rd0
    go_enter Try.func18, Try.ntmps18
    go_wp2_with fail
    rw [← HW1.out]
    obtain ⟨bb, hbb⟩ : ∃ bb, bb = w.heap.size + 1 := ⟨_, rfl⟩
    rw [← hbb] at HRU ⊢
    clear hbb HW1 HP
    go_loopg [10, 5] 2 (fun gk v10 v5 wr => ∃ (i : Nat) (bl : Bool) (best : SU) (E : Go.Disk.Dk), Aside0 (i + gk = 2) ∧ v10 = .int .i64 i ∧ v5 = .bool bl ∧ Aside0 (scanU D i = (E, best, bl)) ∧ Aside0 (RU w wr base db sb bb E best))
    case atStart => exact ⟨0, true, zeroU, D, ⟨by omega⟩, rfl, rfl, ⟨rfl⟩, HRU⟩
    case round =>
      clear HRU
      obtain ⟨i, bl, best, E, HI, rfl, rfl, HS, HRU⟩ := hrel
      by_cases hi : i < 2
      · have hii : (i : Int) < 2 := by omega
        have HSM := Aside0.mk (scan_same D i)
        rw [HS.out] at HSM
        have HRI := Aside0.mk (show Go.Disk.ready E i = 0 by
          rw [ready_same HSM.out.1 HSM.out.2.1, ready_two D HOK.out i hi]
          exact HR0.out.symm)
        obtain ⟨V, hV⟩ : ∃ V, V = Disk.readV E i := ⟨_, rfl⟩
        have hvl := Disk.now_len HRU.out.pd.ok (i : Int) (by
          have := HRI.out
          unfold Go.Disk.ready at this
          have h16 := HRU.out.pd.ok.few
          omega)
        rw [show Disk.nowD E i = V by rw [hV]; unfold Disk.readV; rw [if_pos HRI.out]] at hvl
        have HVL := Aside0.mk hvl
        have HS1 := Aside0.mk (show scanU D (i + 1) = (Disk.readF E i, better D.safe.length best i (getU (V.take 64)), bl && zerosB V) by
          rw [hV]
          show (Disk.readF (scanU D i).1 i, better D.safe.length (scanU D i).2.1 i (getU ((Disk.readV (scanU D i).1 i).take 64)), (scanU D i).2.2 && zerosB (Disk.readV (scanU D i).1 i)) = _
          rw [HS.out])
        have hrd := Disk.read_uni HRU.out.pd (i : Int) (by rw [HSM.out.2.2]; have := HFW.out; omega)
        rw [HRI.out, ← hV] at hrd
        have HRD := Aside0.mk hrd
        clear hvl hV hrd HS
        go_wp2_with fail
        refine HRD.out.mono ?_
        clear HRD
        rintro r w2 ⟨v2, rfl, hr2, hp2, hf2⟩
        have HRU2 := Aside0.mk (HRU.out.read hf2 hp2)
        obtain ⟨A2, c2, rfl⟩ := Kd.R_slice hr2
        have HC2 := Aside0.mk (Kd.R_reads' hr2)
        clear hr2 hp2 hf2 HRU
        rw [HVL.out.1] at HC2 ⊢
        go_upto_region 9 with (fail)
        obtain ⟨zb, hzb⟩ : ∃ z, z = zerosB V := ⟨_, rfl⟩
        have hct := contains_any A2 c2 V (by have := HC2.out.2.2; rw [← HVL.out.1] at this; exact this) (by rw [HVL.out.1]; decide)
        rw [← hzb, HVL.out.1] at hct
        rw [← hzb] at HS1
        have HCT := Aside0.mk hct
        clear hct hzb
        go_cut [5] from 23 to 28 (fun v5 wc => v5 = .bool (bl && zb) ∧ wc = w2)
        case first =>
          cases bl with
          | true =>
            go_wp2_with fail
            refine HCT.out.mono ?_
            rintro r w3 ⟨rfl, hw3⟩
            obtain rfl : w3 = w2 := hw3
            go_wp2_with fail
            go_meet
            case rel => exact ⟨by cases zb <;> rfl, rfl⟩
          | false =>
            go_wp2_with fail
            go_meet
            case rel => exact ⟨rfl, rfl⟩
        case rest =>
          obtain ⟨rfl, hwc⟩ := hcut
          obtain rfl : wc = w2 := hwc
          clear HCT
          obtain ⟨a2, rfl⟩ : ∃ a, A2 = some a := by obtain ⟨a, ha, _⟩ := HC2.out.2.2.2.2 (by decide); exact ⟨a, ha⟩
          have hc64 : 64 ≤ c2 := by have := HC2.out.2.1; omega
          have hl64 : (V.take 64).length = 64 := by rw [List.length_take, HVL.out.1]; decide
          have hg := sget_any (w := wc) (some a2) c2 (V.take 64) (by rw [hl64]; have := HC2.out.2.2; rw [← HVL.out.1] at this; exact head_C this 64 (by rw [HVL.out.1]; decide)) (fun y hy => HVL.out.2 y (List.mem_of_mem_take hy)) (by rw [hl64]; exact hc64) (by rw [hl64]; decide)
          rw [hl64] at hg
          obtain ⟨r, hr⟩ : ∃ r, r = getU (V.take 64) := ⟨_, rfl⟩
          rw [← hr] at hg HS1
          have HG := Aside0.mk hg
          clear hg hr hl64
          obtain ⟨s, hs⟩ : ∃ s, s = r.1 := ⟨_, rfl⟩
          obtain ⟨q, hq⟩ : ∃ q, q = r.2 := ⟨_, rfl⟩
          have HBT := Aside0.mk (show better D.safe.length best i r = if q = 0 ∧ s.b = D.safe.length ∧ Int.tmod s.g 2 = i ∧ best.g < s.g then s else best by rw [hs, hq]; rfl)
          rw [← hs, ← hq] at HG
          clear hs hq
          go_upto_region 10 with (fail)
          go_wp2_with fail
          refine HG.out.mono ?_
          clear HG
          rintro y w3 ⟨rfl, b3⟩
          have HRU3 := Aside0.mk (HRU2.out.step b3)
          clear HRU2 b3 hc64
          go_upto_region 11 with (fail)
          obtain ⟨w4, hw4⟩ : ∃ w4, w4 = w3.alloc (.cells (sixU s.g s.b s.l s.p s.q s.o) 25) := ⟨_, rfl⟩
          have b4 : Below w3.heap.size w3 w4 := by rw [hw4]; exact (Below.refl _ _).alloc (Nat.le_refl _) _
          have HS4 := Aside0.mk (show w4.heap[w3.heap.size]? = some (.cells (sixU s.g s.b s.l s.p s.q s.o) 25 (0, 0)) by rw [hw4]; exact heap_alloc_new w3 _)
          have HRU4 := Aside0.mk (HRU3.out.step b4)
          rw [← hw4]
          obtain ⟨sx, hsx⟩ : ∃ sx, sx = w3.heap.size := ⟨_, rfl⟩
          rw [← hsx] at HS4 ⊢
          clear hw4 b4 hsx HRU3
          have HDR := Aside0.mk (HRU4.out.step (below_drew1 (Below.refl w4.heap.size w4)))
          have hbk := Disk.blocks_any HDR.out.pd
          rw [show (Disk.readF E i).safe.length = D.safe.length by rw [(readF_same E i).1, HSM.out.1]] at hbk
          obtain ⟨n, hn⟩ : ∃ n : Int, n = (D.safe.length : Int) := ⟨_, rfl⟩
          rw [← hn] at hbk HBT
          have HBK := Aside0.mk hbk
          clear hbk hn
          have m0 : ∀ m : Go.Reg.In (Below w4.heap.size w4), m.w.cell? ⟨sx, 0, none⟩ = some (.int .i64 s.g) := fun m => cell_blk ((m.h.block sx (blk_lt HS4.out)).trans HS4.out)
          have m1 : ∀ m : Go.Reg.In (Below w4.heap.size w4), m.w.cell? ⟨sx, 1, none⟩ = some (.int .i64 s.b) := fun m => cell_blk ((m.h.block sx (blk_lt HS4.out)).trans HS4.out)
          have m2 : ∀ m : Go.Reg.In (Below w4.heap.size w4), m.w.cell? ⟨bb, 0, none⟩ = some (.int .i64 best.g) := fun m => cell_blk ((m.h.block bb (blk_lt HRU4.out.best)).trans HRU4.out.best)
          by_cases c1 : q = 0
          · subst c1
            by_cases c2 : s.b = n
            · have c2b : (s.b == n) = true := by simpa using c2
              by_cases c3 : Int.tmod s.g 2 = i
              · have c3b : (Int.tmod s.g 2 == (i : Int)) = true := by simpa using c3
                by_cases c4 : best.g < s.g
                · have HNX := Aside0.mk (show better D.safe.length best i r = s by rw [HBT.out, if_pos ⟨rfl, c2, c3, c4⟩])
                  clear HBT c2 c3
                  refine Go.Reg.region (Below w4.heap.size w4) [.s, .s, .s, .s, .s, .s, .w, .s, .s, .s, .s, .s, .s, .s, .s, .s, .s, .s, .s, .s, .s, .s, .s] (by kernel_rfl) (by kernel_rfl) (below_drew1 (Below.refl _ _)) (fun ne => ?_)
                  refine Go.Reg.lex_q 6 _ _ _ _ (by rfl) ?_; simp only [List.take_succ_cons, List.take_zero, List.drop_succ_cons, List.drop_zero]; (repeat (go_big_quiet_step (rfl))); refine wpQuiet_nil ?_
                  refine Go.Reg.step_w (fun KK hKK => ?_)
                  go_wp2_with fail
                  refine HBK.out.mono ?_
                  rintro y w5 ⟨rfl, hw5⟩
                  obtain rfl : w5 = w4.drew := hw5
                  go_wp2_with fail
                  refine hKK.out _ _ (below_drew1 (Below.refl _ _)) ?_
                  clear hKK KK
                  refine Go.Reg.lex_q 16 _ _ _ _ (by rfl) ?_; simp only [List.take_succ_cons, List.take_zero, List.drop_succ_cons, List.drop_zero]; (repeat (go_big_quiet_step (rfl))); refine wpQuiet_nil ?_
                  refine Go.Reg.lex_nil ?_
                  clear m0 m1 m2
                  have HS5 := Aside0.mk (show w4.drew.heap[sx]? = some (.cells (sixU s.g s.b s.l s.p s.q s.o) 25 (0, 0)) from HS4.out)
                  obtain ⟨w5, hw5⟩ : ∃ w5, w5 = w4.drew := ⟨_, rfl⟩
                  rw [← hw5] at HDR HS5 ⊢
                  clear HBK HS4 HRU4 hw5
                  obtain ⟨⟨k0, k1, k2, k3, k4, k5⟩, _⟩ := cells6 HS5.out
                  obtain ⟨⟨e0, e1, e2, e3, e4, e5⟩, q0, q1, q2, q3, q4, q5⟩ := cells6 HDR.out.best
                  go_wp2_with fail
                  go_roundg (2 - (i + 1))
                  case measure => have := HI.out; omega
                  case rel => exact ⟨i + 1, bl && zb, s, Disk.readF E i, ⟨by have := HI.out; omega⟩, by go_num, rfl, ⟨by rw [HS1.out, HNX.out]⟩, ⟨HDR.out.set s⟩⟩
                · have c4b : decide (best.g < s.g) = false := decide_eq_false c4
                  have HNX := Aside0.mk (show better D.safe.length best i r = best by rw [HBT.out, if_neg (fun h => c4 h.2.2.2)])
                  clear HBT
                  refine Go.Reg.region (Below w4.heap.size w4) [.s, .s, .s, .s, .s, .s, .w, .s, .s, .s, .s, .s, .s, .s, .s, .s, .s, .s, .s, .s, .s, .s, .s] (by kernel_rfl) (by kernel_rfl) (below_drew1 (Below.refl _ _)) (fun ne => ?_)
                  refine Go.Reg.lex_q 6 _ _ _ _ (by rfl) ?_; simp only [List.take_succ_cons, List.take_zero, List.drop_succ_cons, List.drop_zero]; (repeat (go_big_quiet_step (rfl))); refine wpQuiet_nil ?_
                  refine Go.Reg.step_w (fun KK hKK => ?_)
                  go_wp2_with fail
                  refine HBK.out.mono ?_
                  rintro y w5 ⟨rfl, hw5⟩
                  obtain rfl : w5 = w4.drew := hw5
                  go_wp2_with fail
                  refine hKK.out _ _ (below_drew1 (Below.refl _ _)) ?_
                  clear hKK KK
                  refine Go.Reg.lex_q 16 _ _ _ _ (by rfl) ?_; simp only [List.take_succ_cons, List.take_zero, List.drop_succ_cons, List.drop_zero]; (repeat (go_big_quiet_step (rfl))); refine wpQuiet_nil ?_
                  refine Go.Reg.lex_nil ?_
                  clear m0 m1 m2
                  go_wp2_with fail
                  go_roundg (2 - (i + 1))
                  case measure => have := HI.out; omega
                  case rel => exact ⟨i + 1, bl && zb, best, Disk.readF E i, ⟨by have := HI.out; omega⟩, by go_num, rfl, ⟨by rw [HS1.out, HNX.out]⟩, HDR⟩
              · have c3b : (Int.tmod s.g 2 == (i : Int)) = false := by simpa using c3
                have HNX := Aside0.mk (show better D.safe.length best i r = best by rw [HBT.out, if_neg (fun h => c3 h.2.2.1)])
                clear HBT
                refine Go.Reg.region (Below w4.heap.size w4) [.s, .s, .s, .s, .s, .s, .w, .s, .s, .s, .s, .s, .s, .s, .s, .s, .s, .s, .s, .s, .s, .s, .s] (by kernel_rfl) (by kernel_rfl) (below_drew1 (Below.refl _ _)) (fun ne => ?_)
                refine Go.Reg.lex_q 6 _ _ _ _ (by rfl) ?_; simp only [List.take_succ_cons, List.take_zero, List.drop_succ_cons, List.drop_zero]; (repeat (go_big_quiet_step (rfl))); refine wpQuiet_nil ?_
                refine Go.Reg.step_w (fun KK hKK => ?_)
                go_wp2_with fail
                refine HBK.out.mono ?_
                rintro y w5 ⟨rfl, hw5⟩
                obtain rfl : w5 = w4.drew := hw5
                go_wp2_with fail
                refine hKK.out _ _ (below_drew1 (Below.refl _ _)) ?_
                clear hKK KK
                refine Go.Reg.lex_q 16 _ _ _ _ (by rfl) ?_; simp only [List.take_succ_cons, List.take_zero, List.drop_succ_cons, List.drop_zero]; (repeat (go_big_quiet_step (rfl))); refine wpQuiet_nil ?_
                refine Go.Reg.lex_nil ?_
                clear m0 m1 m2
                go_wp2_with fail
                go_roundg (2 - (i + 1))
                case measure => have := HI.out; omega
                case rel => exact ⟨i + 1, bl && zb, best, Disk.readF E i, ⟨by have := HI.out; omega⟩, by go_num, rfl, ⟨by rw [HS1.out, HNX.out]⟩, HDR⟩
            · have c2b : (s.b == n) = false := by simpa using c2
              have HNX := Aside0.mk (show better D.safe.length best i r = best by rw [HBT.out, if_neg (fun h => c2 h.2.1)])
              clear HBT
              refine Go.Reg.region (Below w4.heap.size w4) [.s, .s, .s, .s, .s, .s, .w, .s, .s, .s, .s, .s, .s, .s, .s, .s, .s, .s, .s, .s, .s, .s, .s] (by kernel_rfl) (by kernel_rfl) (below_drew1 (Below.refl _ _)) (fun ne => ?_)
              refine Go.Reg.lex_q 6 _ _ _ _ (by rfl) ?_; simp only [List.take_succ_cons, List.take_zero, List.drop_succ_cons, List.drop_zero]; (repeat (go_big_quiet_step (rfl))); refine wpQuiet_nil ?_
              refine Go.Reg.step_w (fun KK hKK => ?_)
              go_wp2_with fail
              refine HBK.out.mono ?_
              rintro y w5 ⟨rfl, hw5⟩
              obtain rfl : w5 = w4.drew := hw5
              go_wp2_with fail
              refine hKK.out _ _ (below_drew1 (Below.refl _ _)) ?_
              clear hKK KK
              refine Go.Reg.lex_q 16 _ _ _ _ (by rfl) ?_; simp only [List.take_succ_cons, List.take_zero, List.drop_succ_cons, List.drop_zero]; (repeat (go_big_quiet_step (rfl))); refine wpQuiet_nil ?_
              refine Go.Reg.lex_nil ?_
              clear m0 m1 m2
              go_wp2_with fail
              go_roundg (2 - (i + 1))
              case measure => have := HI.out; omega
              case rel => exact ⟨i + 1, bl && zb, best, Disk.readF E i, ⟨by have := HI.out; omega⟩, by go_num, rfl, ⟨by rw [HS1.out, HNX.out]⟩, HDR⟩
          · have c1b : (q == 0) = false := by simpa using c1
            have HNX := Aside0.mk (show better D.safe.length best i r = best by rw [HBT.out, if_neg (fun h => c1 h.1)])
            clear HBT
            refine Go.Reg.region (Below w4.heap.size w4) [.s, .s, .s, .s, .s, .s, .w, .s, .s, .s, .s, .s, .s, .s, .s, .s, .s, .s, .s, .s, .s, .s, .s] (by kernel_rfl) (by kernel_rfl) (below_drew1 (Below.refl _ _)) (fun ne => ?_)
            refine Go.Reg.lex_q 6 _ _ _ _ (by rfl) ?_; simp only [List.take_succ_cons, List.take_zero, List.drop_succ_cons, List.drop_zero]; (repeat (go_big_quiet_step (rfl))); refine wpQuiet_nil ?_
            refine Go.Reg.step_w (fun KK hKK => ?_)
            go_wp2_with fail
            refine hKK.out _ _ (below_drew1 (Below.refl _ _)) ?_
            clear hKK KK
            refine Go.Reg.lex_q 16 _ _ _ _ (by rfl) ?_; simp only [List.take_succ_cons, List.take_zero, List.drop_succ_cons, List.drop_zero]; (repeat (go_big_quiet_step (rfl))); refine wpQuiet_nil ?_
            refine Go.Reg.lex_nil ?_
            clear m0 m1 m2
            go_wp2_with fail
            go_roundg (2 - (i + 1))
            case measure => have := HI.out; omega
            case rel => exact ⟨i + 1, bl && zb, best, Disk.readF E i, ⟨by have := HI.out; omega⟩, by go_num, rfl, ⟨by rw [HS1.out, HNX.out]⟩, HDR⟩
      · have hi2 : i = 2 := by have := HI.out; omega
        subst hi2
        have HV2 := Aside0.mk (show readU D = (best, if 0 < best.g then 0 else if bl = true then 6 else 13) by rw [HV.out, HS.out])
        have HD2 := Aside0.mk (show readDk D = E by rw [HD.out, HS.out])
        obtain ⟨⟨p0, p1, p2, p3, p4, p5⟩, q0, q1, q2, q3, q4, q5⟩ := cells6 HRU.out.zero
        obtain ⟨⟨e0, e1, e2, e3, e4, e5⟩, _⟩ := cells6 HRU.out.best
        clear HV HD HS hi
        have HFIN := Aside0.mk (show ∀ C : Int, (C = if 0 < best.g then 0 else if bl = true then 6 else 13) → Ending.returned (.tuple #[best.v, .int .i64 C]) = Ending.returned (.tuple #[(readU D).1.v, .int .i64 (readU D).2]) from fun C hC => by rw [HV2.out, hC])
        by_cases hg : 0 < best.g
        · have HFX := Aside0.mk (HFIN.out 0 (by rw [if_pos hg]))
          clear HFIN HV2
          go_wp2_with fail
          refine bodyPost_ret (results_ct rfl _ _ w.heap.size 25 (sixU best.g best.b best.l best.p best.q best.o) (0, 0) _ rfl (six_set HRU.out.zero _ _ _ _ _ _) Try.underlying25 rfl (by kernel_rfl)) rfl ?_
          exact ⟨HFX.out, by rw [HD2.out]; exact PD_six HRU.out.pd HRU.out.zero _ _ _ _ _ _, Fr_then HRU.out.fp (six_below (Below.refl _ _) (Nat.le_refl _) _ _ _ _ _ _)⟩
        · cases bl with
          | true =>
            have HFX := Aside0.mk (HFIN.out 6 (by rw [if_neg hg]; rfl))
            clear HFIN HV2
            go_wp2_with fail
            refine bodyPost_ret (results_ct rfl _ _ w.heap.size 25 (sixU best.g best.b best.l best.p best.q best.o) (0, 0) _ rfl (six_set HRU.out.zero _ _ _ _ _ _) Try.underlying25 rfl (by kernel_rfl)) rfl ?_
            exact ⟨HFX.out, by rw [HD2.out]; exact PD_six HRU.out.pd HRU.out.zero _ _ _ _ _ _, Fr_then HRU.out.fp (six_below (Below.refl _ _) (Nat.le_refl _) _ _ _ _ _ _)⟩
          | false =>
            have HFX := Aside0.mk (HFIN.out 13 (by rw [if_neg hg]; rfl))
            clear HFIN HV2
            go_wp2_with fail
            refine bodyPost_ret (results_ct rfl _ _ w.heap.size 25 (sixU best.g best.b best.l best.p best.q best.o) (0, 0) _ rfl (six_set HRU.out.zero _ _ _ _ _ _) Try.underlying25 rfl (by kernel_rfl)) rfl ?_
            exact ⟨HFX.out, by rw [HD2.out]; exact PD_six HRU.out.pd HRU.out.zero _ _ _ _ _ _, Fr_then HRU.out.fp (six_below (Below.refl _ _) (Nat.le_refl _) _ _ _ _ _ _)⟩
end Supr
end Go.Proofs.Ytopfjmeejpamjaa
end
section
namespace Go.Proofs.Ytopfjmeejpamjaa
set_option linter.unusedVariables false
set_option linter.unusedSimpArgs false
set_option linter.ambiguousOpen false
open Go.RowKit Go.Proofs.YtopfjmeejpamjaaW.PrintWords Go.Proofs.YtopfjmeejpamjaaW.PrintLast Go.Proofs.YtopfjmeejpamjaaW.PrintMore
namespace Supr
open Go.Num Go.Crc Go.Proofs.Ytopfjmeejpamjaa.Cell Go.Proofs.Ytopfjmeejpamjaa.Sect
def blockU (s : SU) : List Int := s.put.1 ++ List.replicate 192 0
def writeU (D : Go.Disk.Dk) (s : SU) : Go.Disk.Dk × Int :=
  if s.ok = true ∧ s.b = D.safe.length then
    (if (Disk.writeD D (Int.tmod s.g 2) (blockU s)).2 ≠ 0 then Disk.writeD D (Int.tmod s.g 2) (blockU s) else (Disk.flushF (Disk.writeD D (Int.tmod s.g 2) (blockU s)).1, Disk.flushR (Disk.writeD D (Int.tmod s.g 2) (blockU s)).1))
  else (D, 1)
theorem block_byte (s : SU) : ∀ y ∈ blockU s, 0 ≤ y ∧ y ≤ 255 := by
  intro y hy
  rcases List.mem_append.1 hy with h | h
  · exact put_bytes _ _ _ _ _ _ y h
  · have := (List.mem_replicate.1 h).2; omega
theorem block_len {s : SU} (h : s.ok = true) : (blockU s).length = 256 := by
  unfold blockU
  rw [List.length_append, List.length_replicate, show s.put.1.length = 64 from put_yes_len h]
theorem write_waits (D : Go.Disk.Dk) (n : Int) (b : List Int) : (Disk.writeD D n b).1.waits.length ≤ D.waits.length + 1 := by
  have := Disk.waits_do D 2 n b false []
  unfold Disk.writeD
  split
  · exact Nat.le_succ _
  · split
    · exact Nat.le_succ _
    · split <;> simp [Disk.waits_deed, Disk.waitD]
set_option maxHeartbeats 16000000 in
set_option maxRecDepth 100000 in
theorem swrite_nil {w : World} (s : SU) : Calls Try.prog 15 #[.pointer none, s.v] w fun r w' => r = .returned (.int .i64 8) ∧ Below w.heap.size w w' := by
  go_enter Try.func15, Try.ntmps15
  go_wp2_with fail
  go_ret
  exact ⟨rfl, (Below.refl _ _).alloc (Nat.le_refl _) _⟩
structure WU (w0 w : World) (s : SU) : Prop where
  bel : Below w0.heap.size w0 w
  sup : w.heap[w0.heap.size]? = some (.cells (sixU s.g s.b s.l s.p s.q s.o) 25 (0, 0))
theorem WU.step {w0 w w' : World} {s : SU} (h : WU w0 w s) (f : Below w.heap.size w w') : WU w0 w' s :=
  ⟨h.bel.trans (f.mono h.bel.size), (f.block _ (blk_lt h.sup)).trans h.sup⟩
set_option maxHeartbeats 16000000 in
set_option maxRecDepth 100000 in
theorem swrite_any {w : World} {base db sb : Nat} {D : Go.Disk.Dk} (h : Disk.PD w base db sb D) (s : SU) (hfew : D.waits.length ≤ 900000) :
    Calls Try.prog 15 #[.pointer (some ⟨db, 0, none⟩), s.v] w fun r w' => r = .returned (.int .i64 (writeU D s).2) ∧ Disk.PD w' base db sb (writeU D s).1 ∧ Disk.FP base db sb w w' := by
  have HFW := Aside0.mk hfew
  obtain ⟨w1, hw1⟩ : ∃ w1, w1 = w.alloc (.cells (sixU s.g s.b s.l s.p s.q s.o) 25) := ⟨_, rfl⟩
  have b1 : Below w.heap.size w w1 := by rw [hw1]; exact (Below.refl _ _).alloc (Nat.le_refl _) _
  have HWU := Aside0.mk (show WU w w1 s from ⟨b1, by rw [hw1]; exact heap_alloc_new w _⟩)
  have HW1 := Aside0.mk hw1
  have HPD := Aside0.mk h
  clear h hfew hw1 b1
  obtain ⟨R, hR⟩ : ∃ R, R = writeU D s := ⟨_, rfl⟩
  rw [← hR]
  have HR := Aside0.mk hR
  have hput := sput_R (w := w1) s.g s.b s.l s.p s.q s.o
  obtain ⟨P, hP⟩ : ∃ P, P = putU s.g s.b s.l s.p s.q s.o := ⟨_, rfl⟩
  rw [← hP] at hput
  have HPU := Aside0.mk hput
  have HP := Aside0.mk hP
  clear hR hput hP
  by_cases hok : s.ok = true
  · have HOK := Aside0.mk hok
    have HC := Aside0.mk (show P = (P.1, 0) from Prod.ext rfl (by rw [HP.out, put_code, if_pos hok]))
    rw [HC.out] at HPU
    have HPL := Aside0.mk (show P.1.length = 64 by rw [HP.out]; exact put_yes_len hok)
    clear hok
    go_enter Try.func15, Try.ntmps15
    go_wp2_with fail
    rw [← HW1.out]
    refine HPU.out.mono ?_
    clear HPU HW1
    rintro r w2 ⟨v2, rfl, hr2, b2⟩
    have HWU2 := Aside0.mk (HWU.out.step b2)
    have HR2 := Aside0.mk (Kd.R_lower (base' := w.heap.size) hr2 HWU.out.bel.size)
    obtain ⟨A2, c2, rfl⟩ := Kd.R_slice hr2
    rw [HPL.out] at HR2 ⊢
    clear hr2 b2 HWU
    go_upto_region 6 with (fail)
    obtain ⟨n, hn⟩ : ∃ n : Int, n = (D.safe.length : Int) := ⟨_, rfl⟩
    have HNE := Aside0.mk hn
    clear hn
    go_cut [22] from 18 to 22 (fun v22 wc => v22 = .bool (s.b != n) ∧ wc = w2.drew)
    case first =>
      refine Go.Reg.region (Below w2.heap.size w2) [.s, .s, .s, .w, .p] (by kernel_rfl) (by kernel_rfl) (below_drew1 (Below.refl _ _)) (fun ne => ?_)
      have m1 : ∀ m : Go.Reg.In (Below w2.heap.size w2), m.w.cell? ⟨w.heap.size, 1, none⟩ = some (.int .i64 s.b) := fun m => cell_blk ((m.h.block _ (blk_lt HWU2.out.sup)).trans HWU2.out.sup)
      refine Go.Reg.lex_q 3 _ _ _ _ (by rfl) ?_; simp only [List.take_succ_cons, List.take_zero, List.drop_succ_cons, List.drop_zero]; (repeat (go_big_quiet_step (rfl))); refine wpQuiet_nil ?_
      refine Go.Reg.step_w (fun KK hKK => ?_)
      have hbk := Disk.blocks_any (HPD.out.below (HWU2.out.step (below_drew1 (Below.refl w2.heap.size w2))).bel)
      rw [← HNE.out] at hbk
      have HBK := Aside0.mk hbk
      clear hbk
      go_wp2_with fail
      refine HBK.out.mono ?_
      rintro y w5 ⟨rfl, hw5⟩
      obtain rfl : w5 = w2.drew := hw5
      go_wp2_with fail
      refine hKK.out _ _ (below_drew1 (Below.refl _ _)) ?_
      clear hKK KK
      refine Go.Reg.lex_qp 1 _ _ _ _ _ (by rfl) ?_; simp only [List.take_succ_cons, List.take_zero, List.drop_succ_cons, List.drop_zero]; (repeat (go_big_quiet_step (rfl))); refine wpQuiet_nil ?_
      refine Go.Reg.lex_nil ?_
      clear m1 HBK
      go_wp2_with fail
      go_meet
      case rel => exact ⟨rfl, rfl⟩
    case rest =>
      obtain ⟨rfl, rfl⟩ := hcut
      obtain ⟨w3, hw3⟩ : ∃ w3, w3 = w2.drew := ⟨_, rfl⟩
      have HWU3 := Aside0.mk (show WU w w3 s by rw [hw3]; exact HWU2.out.step (below_drew1 (Below.refl w2.heap.size w2)))
      have HR3 := Aside0.mk (show Kd.R (Kd.int .u8) 5 w3 w.heap.size (fun _ => True) (.slice A2 64 c2) P.1 by rw [hw3]; exact Kd.R_below HR2.out (below_drew1 (Below.refl w2.heap.size w2)))
      rw [← hw3]
      clear hw3 HWU2 HR2
      by_cases hbn : s.b = n
      · have hbb : (s.b != n) = false := by simp [hbn]
        rw [hbb]
        clear hbb
        have HRV := Aside0.mk (show R = if (Disk.writeD D (Int.tmod s.g 2) (blockU s)).2 ≠ 0 then Disk.writeD D (Int.tmod s.g 2) (blockU s) else (Disk.flushF (Disk.writeD D (Int.tmod s.g 2) (blockU s)).1, Disk.flushR (Disk.writeD D (Int.tmod s.g 2) (blockU s)).1) by rw [HR.out]; unfold writeU; rw [if_pos ⟨HOK.out, by rw [hbn, HNE.out]⟩])
        have HBL := Aside0.mk (show P.1 ++ List.replicate 192 0 = blockU s by rw [HP.out]; rfl)
        have HBLL := Aside0.mk (block_len HOK.out)
        clear hbn HR HNE HOK HP HC
        go_upto_region 8 with (fail)
        obtain ⟨W, hW⟩ : ∃ W, W = Disk.writeD D (Int.tmod s.g 2) (blockU s) := ⟨_, rfl⟩
        have HWF := Aside0.mk (show W.1.waits.length ≤ 1000000 by rw [hW]; have := write_waits D (Int.tmod s.g 2) (blockU s); have := HFW.out; omega)
        rw [← hW] at HRV
        have HWW := Aside0.mk hW
        clear hW
        go_cut [7] from 23 to 32 (fun v7 wc => v7 = .int .i64 W.2 ∧ Aside0 (Disk.PD wc base db sb W.1) ∧ Aside0 (Disk.FP base db sb w wc))
        case first =>
          refine Go.Reg.region (fun y => y.heap[w.heap.size]? = some (.cells (sixU s.g s.b s.l s.p s.q s.o) 25 (0, 0))) [.s, .s, .s, .s, .s, .s, .s, .s, .w, .w, .p] (by kernel_rfl) (by kernel_rfl) (show w3.drew.heap[w.heap.size]? = _ from HWU3.out.sup) (fun ne => ?_)
          have m0 : ∀ m : Go.Reg.In (fun y => y.heap[w.heap.size]? = some (.cells (sixU s.g s.b s.l s.p s.q s.o) 25 (0, 0))), m.w.cell? ⟨w.heap.size, 0, none⟩ = some (.int .i64 s.g) := fun m => cell_blk m.h
          refine Go.Reg.lex_q 8 _ _ _ _ (by rfl) ?_; simp only [List.take_succ_cons, List.take_zero, List.drop_succ_cons, List.drop_zero]; (repeat (go_big_quiet_step (rfl))); refine wpQuiet_nil ?_
          clear m0
          obtain ⟨w4, hw4⟩ : ∃ w4, w4 = w3.drew := ⟨_, rfl⟩
          have HWU4 := Aside0.mk (show WU w w4 s by rw [hw4]; exact HWU3.out.step (below_drew1 (Below.refl w3.heap.size w3)))
          have HR4 := Aside0.mk (show Kd.R (Kd.int .u8) 5 w4 w.heap.size (fun _ => True) (.slice A2 64 c2) P.1 by rw [hw4]; exact Kd.R_below HR3.out (below_drew1 (Below.refl w3.heap.size w3)))
          rw [← hw4]
          clear hw4 HWU3 HR3
          refine Go.Reg.step_w (fun KK hKK => ?_)
          go_wp2_with ((with_reducible refine gate_builtin (b := .append) (xs := #[.tmp 27, .tmp 30]) rfl ?_); at_builtin; refine Hid.out ?_)
          refine Lib.hid ?_
          refine Kd.R_append_zeros (Kd.int .u8) (w0 := w) w.heap.size rfl (.tmp 27) (.tmp 30) 26 3 5 (.int .u8 0) 1 rfl Try.underlying26 Try.underlying3 infoU8 rfl (by decide) (by omega) (.slice A2 64 c2) P.1 0 (kx := .i64) 192 (fun _ => True) rfl rfl rfl (fun _ _ => trivial) HR4.out (by omega) HWU4.out.bel HWU4.out.bel.size (by rw [HPL.out]; decide) ?_
          intro v5 w5 ho hb hg _
          rw [show (192 : Int).toNat = 192 from rfl, HBL.out] at ho
          have HWU5 := Aside0.mk (show WU w w5 s from ⟨hb, (hg.block _ (blk_lt HWU4.out.sup) (Kd.R_ne HR4.out HWU4.out.sup (by decide))).trans HWU4.out.sup⟩)
          obtain ⟨A5, c5, rfl⟩ := Kd.R_slice ho
          rw [HBLL.out] at ho ⊢
          have HR5 := Aside0.mk ho
          clear ho hb hg HWU4 HR4
          go_wp2_with fail
          refine hKK.out _ _ HWU5.out.sup ?_
          clear hKK KK
          refine Go.Reg.step_w (fun KK hKK => ?_)
          have hwr := Disk.write_uni (HPD.out.below HWU5.out.bel) (Int.tmod s.g 2) A5 c5 (blockU s) (block_byte s) (by rw [HBLL.out]; intro y hy; have := stable_R (l := blockU s) (by rw [HBLL.out]; exact HR5.out) y hy; rw [HBLL.out] at this; exact this) (by have := HFW.out; omega)
          rw [← HWW.out, HBLL.out] at hwr
          have HWR := Aside0.mk hwr
          clear hwr
          go_wp2_with fail
          refine HWR.out.mono ?_
          clear HWR
          rintro y w6 ⟨rfl, hp6, hf6⟩
          have HS6 := Aside0.mk (keep_super (HPD.out.below HWU5.out.bel) hf6 HWU5.out.sup)
          have HP6 := Aside0.mk hp6
          have HF6 := Aside0.mk (Disk.Fr.trans (.of_below HWU5.out.bel) hf6)
          clear hp6 hf6 HWU5 HR5
          go_wp2_with fail
          refine hKK.out _ _ HS6.out ?_
          clear hKK KK
          refine Go.Reg.lex_qp 1 _ _ _ _ _ (by rfl) ?_; simp only [List.take_succ_cons, List.take_zero, List.drop_succ_cons, List.drop_zero]; (repeat (go_big_quiet_step (rfl))); refine wpQuiet_nil ?_
          refine Go.Reg.lex_nil ?_
          go_wp2_with fail
          go_meet
          case rel => exact ⟨rfl, HP6, HF6⟩
        case rest =>
          obtain ⟨rfl, HP6, HF6⟩ := hcut
          obtain ⟨e, he⟩ : ∃ e, e = W.2 := ⟨_, rfl⟩
          have HRW := Aside0.mk (show R = if e ≠ 0 then W else (Disk.flushF W.1, Disk.flushR W.1) by rw [he]; exact HRV.out)
          have HEW := Aside0.mk he
          rw [← he]
          clear he HRV HWW HWU3 HR3
          by_cases he0 : e ≠ 0
          · have HRZ := Aside0.mk (show R = W by rw [HRW.out, if_pos he0])
            go_wp2_with fail
            go_ret
            exact ⟨by rw [HRZ.out, ← HEW.out]; rfl, by rw [HRZ.out]; exact HP6.out, HF6.out⟩
          · have he1 : e = 0 := Classical.byContradiction he0
            subst he1
            have HRZ := Aside0.mk (show R = (Disk.flushF W.1, Disk.flushR W.1) by rw [HRW.out, if_neg he0])
            clear he0 HRW HEW
            have hfl := Disk.flush_uni HP6.out HWF.out
            obtain ⟨q, hq⟩ : ∃ q, q = Disk.flushR W.1 := ⟨_, rfl⟩
            rw [← hq] at hfl HRZ
            have HFL := Aside0.mk hfl
            clear hfl hq
            go_wp2_with fail
            refine HFL.out.mono ?_
            clear HFL
            rintro y w7 ⟨rfl, hp7, hf7⟩
            have HP7 := Aside0.mk hp7
            have HF7 := Aside0.mk (HF6.out.trans hf7)
            clear hp7 hf7 HP6 HF6
            go_wp2_with fail
            go_ret
            exact ⟨by rw [HRZ.out]; rfl, by rw [HRZ.out]; exact HP7.out, HF7.out⟩
      · have hbb : (s.b != n) = true := by simpa using hbn
        have HRV := Aside0.mk (show R = (D, 1) by rw [HR.out]; unfold writeU; rw [if_neg (fun h => hbn (h.2.trans HNE.out.symm))])
        clear hbn HR
        go_wp2_with fail
        go_ret
        exact ⟨by rw [HRV.out]; rfl, by rw [HRV.out]; exact HPD.out.below HWU3.out.bel, .of_below HWU3.out.bel⟩
  · have HRV := Aside0.mk (show R = (D, 1) by rw [HR.out]; unfold writeU; rw [if_neg (fun h => hok h.1)])
    have HC := Aside0.mk (show P = (P.1, 1) from Prod.ext rfl (by rw [HP.out, put_code, if_neg hok]))
    rw [HC.out] at HPU
    clear hok HR
    go_enter Try.func15, Try.ntmps15
    go_wp2_with fail
    rw [← HW1.out]
    refine HPU.out.mono ?_
    clear HPU HW1
    rintro r w2 ⟨v2, rfl, hr2, b2⟩
    have HWU2 := Aside0.mk (HWU.out.step b2)
    clear hr2 b2 HWU
    go_wp2_with fail
    go_ret
    exact ⟨by rw [HRV.out]; rfl, by rw [HRV.out]; exact HPD.out.below HWU2.out.bel, .of_below HWU2.out.bel⟩
end Supr
end Go.Proofs.Ytopfjmeejpamjaa
end
section
namespace Go.Proofs.Ytopfjmeejpamjaa
set_option linter.unusedVariables false
set_option linter.unusedSimpArgs false
set_option linter.ambiguousOpen false
open Go.RowKit Go.Proofs.YtopfjmeejpamjaaW.PrintWords Go.Proofs.YtopfjmeejpamjaaW.PrintLast Go.Proofs.YtopfjmeejpamjaaW.PrintMore
namespace Supr
open Go.Num Go.Crc Go.Proofs.Ytopfjmeejpamjaa.Cell Go.Proofs.Ytopfjmeejpamjaa.Sect
structure GX (w0 w : World) (sx : Nat) (x : Sec) (A : Option Addr) (c : Nat) : Prop where
  below : Below w0.heap.size w0 w
  zero : w.heap[w0.heap.size]? = some (.cells (sixU 0 0 0 0 0 0) 25 (0, 0))
  sec : w.heap[sx]? = some (.cells #[.int .i64 x.k, .int .i64 x.e, .int .i64 x.n, .int .i64 x.l, .slice A x.d.length c] 69 (0, 0))
  row : ∀ y, Below w.heap.size w y → Kd.C (Kd.int .u8) y A x.d.length x.d
theorem GX.step {w0 w w' : World} {sx : Nat} {x : Sec} {A : Option Addr} {c : Nat} (h : GX w0 w sx x A c) (f : Below w.heap.size w w') : GX w0 w' sx x A c :=
  ⟨h.below.trans (f.mono h.below.size), (f.block _ (blk_lt h.zero)).trans h.zero, (f.block _ (blk_lt h.sec)).trans h.sec, fun y hy => h.row y (below_steps f hy)⟩
theorem GX.grown {w0 w w' : World} {sx : Nat} {x : Sec} {c base : Nat} {a : Addr} {v : Value} {xs : List Int} (h : GX w0 w sx x (some a) c) (hr : Kd.R (Kd.int .i64) 3 w base (fun _ => True) v xs) (f : w.grownBy w' v.ownBlock) (hb : Below w0.heap.size w0 w') (hrow : ∀ y, Below w'.heap.size w' y → Kd.C (Kd.int .u8) y (some a) x.d.length x.d) : GX w0 w' sx x (some a) c :=
  ⟨hb, (f.block _ (blk_lt h.zero) (Kd.R_ne hr h.zero (by decide))).trans h.zero, (f.block _ (blk_lt h.sec) (Kd.R_ne hr h.sec (by decide))).trans h.sec, hrow⟩
set_option maxHeartbeats 16000000 in
set_option maxRecDepth 100000 in
theorem xsget_any {w : World} (A : Option Addr) (c : Nat) (l : List Int) (hC : Kd.C (Kd.int .u8) w A l.length l) (hb : ∀ y ∈ l, 0 ≤ y ∧ y ≤ 255) (hc : l.length ≤ c) (hl : l.length ≤ 200000) :
    Calls Try.prog 12 #[.slice A l.length c] w fun r w' => r = .returned (.tuple #[(getU l).1.v, .int .i64 (getU l).2]) ∧ Below w.heap.size w w' := by
  have HC := Aside0.mk hC
  have HBY := Aside0.mk hb
  have HXB := Aside0.mk (get_byte l hb)
  have HC0 := Aside0.mk hc
  obtain ⟨R, hR⟩ : ∃ R, R = getU l := ⟨_, rfl⟩
  rw [← hR]
  obtain ⟨x, hx⟩ : ∃ x, x = (getS l).1 := ⟨_, rfl⟩
  obtain ⟨e, he⟩ : ∃ e, e = (getS l).2 := ⟨_, rfl⟩
  have HE0 := Aside0.mk (show e ≠ 0 → R = (zeroU, e) from fun h => by rw [hR]; unfold getU; rw [if_pos (by rw [← he]; exact h), ← he])
  have HEN := Aside0.mk (show e = 0 → (x.d.length ≠ 16 ∨ ∃ j, j < 4 ∧ (num4 x.d j).2 ≠ 0) → R = (zeroU, 5) from fun h k => by rw [hR]; exact getU_no l (he.symm.trans h) (by rw [← hx]; exact k))
  have HEY := Aside0.mk (show e = 0 → x.d.length = 16 → R = if (ofSec x).put.2 = 0 ∧ (ofSec x).put.1 = l then (ofSec x, 0) else (zeroU, 5) from fun h k => by rw [hR, hx]; exact getU_yes l hb (he.symm.trans h) (by rw [← hx]; exact k))
  rw [← hx] at HXB
  clear hR hC hb
  obtain ⟨W, hW⟩ : ∃ W, W = w.alloc (.cells (sixU 0 0 0 0 0 0) 25) := ⟨_, rfl⟩
  have HB0 := Aside0.mk (show Below w.heap.size w W by rw [hW]; exact (Below.refl _ _).alloc (Nat.le_refl _) _)
  have HZ0 := Aside0.mk (show W.heap[w.heap.size]? = some (.cells (sixU 0 0 0 0 0 0) 25 (0, 0)) by rw [hW]; exact heap_alloc_new w _)
  have hg := xget_any (w := W) A c l (Kd.C_below HC.out HB0.out) HBY.out hc hl
  rw [← hx, ← he] at hg
  have HG := Aside0.mk hg
  have HWE := Aside0.mk hW
  clear hx he hg hW hl hc
  go_enter Try.func12, Try.ntmps12
  go_wp2_with fail
  rw [← HWE.out]
  refine HG.out.mono ?_
  rintro r w1 ⟨A1, c1, rfl, h1, hC1, b1⟩
  have HC1 := Aside0.mk hC1
  have HZ1 := Aside0.mk ((b1.block _ (blk_lt HZ0.out)).trans HZ0.out)
  have HB1 := Aside0.mk (HB0.out.trans (b1.mono HB0.out.size))
  have H1 := Aside0.mk h1
  clear b1 hC1 h1 HG HWE HZ0 HB0
  obtain ⟨w2, hw2⟩ : ∃ z, z = w1.alloc (.cells #[.int .i64 x.k, .int .i64 x.e, .int .i64 x.n, .int .i64 x.l, .slice A1 x.d.length c1] 69) := ⟨_, rfl⟩
  have b2 : Below w1.heap.size w1 w2 := by rw [hw2]; exact (Below.refl _ _).alloc (Nat.le_refl _) _
  have HX := Aside0.mk (show GX w w2 w1.heap.size x A1 c1 from ⟨HB1.out.trans (b2.mono HB1.out.size), (b2.block _ (blk_lt HZ1.out)).trans HZ1.out, by rw [hw2]; exact heap_alloc_new w1 _, fun y hy => HC1.out y (below_steps b2 hy)⟩)
  clear HC1 HZ1 HB1 b2
  by_cases h0 : e ≠ 0
  · have HN := Aside0.mk (HE0.out h0)
    obtain ⟨⟨p0, p1, p2, p3, p4, p5⟩, q0, q1, q2, q3, q4, q5⟩ := cells6 HX.out.zero
    rw [hw2] at p0 p1 p2 p3 p4 p5 q0 q1 q2 q3 q4 q5
    go_wp2_with fail
    rw [← hw2]
    refine bodyPost_ret (results_ct rfl _ _ w.heap.size 25 (sixU 0 0 0 0 0 0) (0, 0) _ rfl (six_set HX.out.zero _ _ _ _ _ _) Try.underlying25 rfl (by kernel_rfl)) rfl ?_
    exact ⟨by rw [HN.out]; rfl, six_below HX.out.below (Nat.le_refl _) _ _ _ _ _ _⟩
  · have h00 : e = 0 := Classical.byContradiction h0
    subst h00
    have HEN1 := Aside0.mk (HEN.out rfl)
    have HEY1 := Aside0.mk (HEY.out rfl)
    clear h0 HE0 HEN HEY
    obtain ⟨m, hm⟩ : ∃ m, m = x.d.length := ⟨_, rfl⟩
    have HW2 := Aside0.mk hw2
    clear hw2
    rw [← hm]
    have HM := Aside0.mk hm
    clear hm
    by_cases hm16 : m ≠ 16
    · have HN := Aside0.mk (HEN1.out (.inl (by rw [← HM.out]; exact hm16)))
      have hmi : ((m : Int) != 16) = true := by simp; omega
      obtain ⟨⟨p0, p1, p2, p3, p4, p5⟩, q0, q1, q2, q3, q4, q5⟩ := cells6 HX.out.zero
      rw [HW2.out] at p0 p1 p2 p3 p4 p5 q0 q1 q2 q3 q4 q5
      rw [← HM.out] at p0 p1 p2 p3 p4 p5 q0 q1 q2 q3 q4 q5
      go_wp2_with fail
      rw [HM.out, ← HW2.out]
      refine bodyPost_ret (results_ct rfl _ _ w.heap.size 25 (sixU 0 0 0 0 0 0) (0, 0) _ rfl (six_set HX.out.zero _ _ _ _ _ _) Try.underlying25 rfl (by kernel_rfl)) rfl ?_
      exact ⟨by rw [HN.out]; rfl, six_below HX.out.below (Nat.le_refl _) _ _ _ _ _ _⟩
    · have hm2 : m = 16 := Classical.byContradiction hm16
      subst hm2
      clear hm16
      obtain ⟨a, rfl⟩ : ∃ a, A1 = some a := by obtain ⟨a, ha, _⟩ := (HX.out.row _ (Below.refl _ _)).2.2 (by rw [← HM.out]; decide); exact ⟨a, ha⟩
      have HWM := Aside0.mk (show w2 = w1.alloc (.cells #[.int .i64 x.k, .int .i64 x.e, .int .i64 x.n, .int .i64 x.l, .slice (some a) 16 c1] 69) by rw [HW2.out, ← HM.out])
      go_wp2_with fail
      rw [← HWM.out]
      obtain ⟨sx, hsx⟩ : ∃ sx, sx = w1.heap.size := ⟨_, rfl⟩
      rw [← hsx] at HX ⊢
      clear hsx HW2 HWM
      have H16 := Aside0.mk (show 16 ≤ c1 by have := H1.out; rw [← HM.out] at this; exact this)
      go_loopg [7, 6] 4 (fun gk v7 v6 wr => ∃ (i : Nat) (I : Int) (A' : Option Addr) (c' : Nat), Aside0 (i + gk = 4) ∧ Aside0 (I = i) ∧ v7 = .int .i64 I ∧ v6 = .slice A' i c' ∧ Aside0 (∀ j, j < i → (num4 x.d j).2 = 0) ∧ Aside0 (Kd.R (Kd.int .i64) 3 wr w2.heap.size (fun _ => True) (.slice A' i c') ((List.range i).map (fun j => (num4 x.d j).1))) ∧ Aside0 (Below w2.heap.size w2 wr))
      case atStart => exact ⟨0, 0, none, 0, ⟨by omega⟩, ⟨rfl⟩, rfl, rfl, ⟨fun j hj => absurd hj (by omega)⟩, ⟨Kd.R_nil _ _ _ _ _⟩, ⟨Below.refl _ _⟩⟩
      case round =>
        obtain ⟨i, I, A', c', HI, HII, rfl, rfl, HZ, HR, HB⟩ := hrel
        have HXr := Aside0.mk (HX.out.step HB.out)
        rcases (show i = 0 ∨ i = 1 ∨ i = 2 ∨ i = 3 ∨ i = 4 by have := HI.out; omega) with rfl | rfl | rfl | rfl | rfl
        · obtain rfl : I = 0 := HII.out
          have x4 : wr.cell? ⟨sx, 4, none⟩ = some (.slice (some a) 16 c1) := by have := cell_blk (k := 4) HXr.out.sec; rw [← HM.out] at this; exact this
          have h16 := H16.out
          go_wp2_with fail
          clear h16
          refine (xunfix_any (some (a.add 0)) (c1 - 0) ((x.d.drop (4 * 0)).take 4) 4 (by rw [List.length_take, List.length_drop, ← HM.out]; decide) (by have := mid_C (HXr.out.row _ (Below.refl _ _)) 0 4 (by rw [← HM.out]; decide); exact this) (by have := H16.out; omega) (take_byte HXB.out _ _)).mono ?_
          rintro r w3 ⟨rfl, b3⟩
          have HX3 := Aside0.mk (HXr.out.step b3)
          have HB3 := Aside0.mk (HB.out.trans (b3.mono HB.out.size))
          have HR3 := Aside0.mk (Kd.R_below HR.out b3)
          clear b3 x4 HXr HR HB
          obtain ⟨n, hn⟩ : ∃ n, n = (unfixP ((x.d.drop (4 * 0)).take 4)).1 := ⟨_, rfl⟩
          obtain ⟨q, hq⟩ : ∃ n, n = (unfixP ((x.d.drop (4 * 0)).take 4)).2 := ⟨_, rfl⟩
          rw [← hn, ← hq]
          have HNN := Aside0.mk (show n = (num4 x.d 0).1 from hn)
          have HQQ := Aside0.mk (show q = (num4 x.d 0).2 from hq)
          clear hn hq
          by_cases hq0 : q ≠ 0
          · have HN := Aside0.mk (HEN1.out (.inr ⟨0, by decide, by rw [← HQQ.out]; exact hq0⟩))
            obtain ⟨⟨p0, p1, p2, p3, p4, p5⟩, q0, q1, q2, q3, q4, q5⟩ := cells6 HX3.out.zero
            go_wp2_with fail
            refine bodyPost_ret (results_ct rfl _ _ w.heap.size 25 (sixU 0 0 0 0 0 0) (0, 0) _ rfl (six_set HX3.out.zero _ _ _ _ _ _) Try.underlying25 rfl (by kernel_rfl)) rfl ?_
            exact ⟨by rw [HN.out]; rfl, six_below HX3.out.below (Nat.le_refl _) _ _ _ _ _ _⟩
          · have hq1 : q = 0 := Classical.byContradiction hq0
            subst hq1
            clear hq0
            go_wp2_with ((with_reducible refine gate_builtin (b := .append) (xs := #[.tmp 46, .tmp 48]) rfl ?_); at_builtin; refine Hid.out ?_)
            refine Lib.hid ?_
            obtain ⟨w4, hw4⟩ : ∃ w4, w4 = w3.alloc (.cells #[.int .i64 n] 3) := ⟨_, rfl⟩
            have b4 : Below w3.heap.size w3 w4 := by rw [hw4]; exact (Below.refl _ _).alloc (Nat.le_refl _) _
            have hn4 : w4.heap[w3.heap.size]? = some (.cells (([n] : List Int).map (Value.int .i64)).toArray 3 (0, 0)) := by rw [hw4]; exact heap_alloc_new w3 _
            have HB4 := Aside0.mk (HB3.out.trans (b4.mono HB3.out.size))
            have HR4 := Aside0.mk (Kd.R_below HR3.out b4)
            have HC4 := Aside0.mk (rowI hn4 (by simp))
            rw [← hw4]
            clear hw4 b4 hn4 HX3 HR3 HB3
            refine Kd.R_append_rows (Kd.int .i64) (Rr := (Kd.int .i64).K w4) (w0 := w2) w2.heap.size rfl (.tmp 46) (.tmp 48) 37 3 (.int .i64 0) 8 rfl Try.underlying37 infoI64 rfl (by decide) (by omega) (.slice A' 0 c') ((List.range 0).map (fun j => (num4 x.d j).1)) [n] (some ⟨w3.heap.size, 0, none⟩) 1 1 (fun _ => True) (fun _ => False) rfl rfl HR4.out HC4.out (fun x cs h => h) (fun _ hk => hk.elim) (fun _ _ => trivial) HB4.out HB4.out.size (by simp) ?_
            intro v2 w5 ho hb hg _
            obtain ⟨A2, c2, rfl⟩ := Kd.R_slice ho
            have HO := Aside0.mk ho
            have HB5 := Aside0.mk hb
            clear ho hb hg HR4 HC4 HB4
            go_wp2_with fail
            go_roundg (4 - 1)
            case measure => have := HI.out; omega
            case rel => exact ⟨1, 1, A2, c2, ⟨by have := HI.out; omega⟩, ⟨rfl⟩, rfl, by simp, ⟨fun j hj => by rcases Nat.lt_succ_iff_lt_or_eq.1 hj with h | h; exact HZ.out j h; rw [h]; exact HQQ.out.symm⟩, ⟨by rw [List.range_succ, List.map_append, List.map_singleton, ← HNN.out]; have := HO.out; simp only [List.length_append, List.length_map, List.length_range, List.length_singleton] at this; exact this⟩, HB5⟩
        · obtain rfl : I = 1 := HII.out
          have x4 : wr.cell? ⟨sx, 4, none⟩ = some (.slice (some a) 16 c1) := by have := cell_blk (k := 4) HXr.out.sec; rw [← HM.out] at this; exact this
          have h16 := H16.out
          go_wp2_with fail
          clear h16
          refine (xunfix_any (some (a.add 4)) (c1 - 4) ((x.d.drop (4 * 1)).take 4) 4 (by rw [List.length_take, List.length_drop, ← HM.out]; decide) (by have := mid_C (HXr.out.row _ (Below.refl _ _)) 4 4 (by rw [← HM.out]; decide); exact this) (by have := H16.out; omega) (take_byte HXB.out _ _)).mono ?_
          rintro r w3 ⟨rfl, b3⟩
          have HX3 := Aside0.mk (HXr.out.step b3)
          have HB3 := Aside0.mk (HB.out.trans (b3.mono HB.out.size))
          have HR3 := Aside0.mk (Kd.R_below HR.out b3)
          clear b3 x4 HXr HR HB
          obtain ⟨n, hn⟩ : ∃ n, n = (unfixP ((x.d.drop (4 * 1)).take 4)).1 := ⟨_, rfl⟩
          obtain ⟨q, hq⟩ : ∃ n, n = (unfixP ((x.d.drop (4 * 1)).take 4)).2 := ⟨_, rfl⟩
          rw [← hn, ← hq]
          have HNN := Aside0.mk (show n = (num4 x.d 1).1 from hn)
          have HQQ := Aside0.mk (show q = (num4 x.d 1).2 from hq)
          clear hn hq
          by_cases hq0 : q ≠ 0
          · have HN := Aside0.mk (HEN1.out (.inr ⟨1, by decide, by rw [← HQQ.out]; exact hq0⟩))
            obtain ⟨⟨p0, p1, p2, p3, p4, p5⟩, q0, q1, q2, q3, q4, q5⟩ := cells6 HX3.out.zero
            go_wp2_with fail
            refine bodyPost_ret (results_ct rfl _ _ w.heap.size 25 (sixU 0 0 0 0 0 0) (0, 0) _ rfl (six_set HX3.out.zero _ _ _ _ _ _) Try.underlying25 rfl (by kernel_rfl)) rfl ?_
            exact ⟨by rw [HN.out]; rfl, six_below HX3.out.below (Nat.le_refl _) _ _ _ _ _ _⟩
          · have hq1 : q = 0 := Classical.byContradiction hq0
            subst hq1
            clear hq0
            go_wp2_with ((with_reducible refine gate_builtin (b := .append) (xs := #[.tmp 46, .tmp 48]) rfl ?_); at_builtin; refine Hid.out ?_)
            refine Lib.hid ?_
            obtain ⟨w4, hw4⟩ : ∃ w4, w4 = w3.alloc (.cells #[.int .i64 n] 3) := ⟨_, rfl⟩
            have b4 : Below w3.heap.size w3 w4 := by rw [hw4]; exact (Below.refl _ _).alloc (Nat.le_refl _) _
            have hn4 : w4.heap[w3.heap.size]? = some (.cells (([n] : List Int).map (Value.int .i64)).toArray 3 (0, 0)) := by rw [hw4]; exact heap_alloc_new w3 _
            have HB4 := Aside0.mk (HB3.out.trans (b4.mono HB3.out.size))
            have HR4 := Aside0.mk (Kd.R_below HR3.out b4)
            have HC4 := Aside0.mk (rowI hn4 (by simp))
            rw [← hw4]
            clear hw4 b4 hn4 HX3 HR3 HB3
            refine Kd.R_append_rows (Kd.int .i64) (Rr := (Kd.int .i64).K w4) (w0 := w2) w2.heap.size rfl (.tmp 46) (.tmp 48) 37 3 (.int .i64 0) 8 rfl Try.underlying37 infoI64 rfl (by decide) (by omega) (.slice A' 1 c') ((List.range 1).map (fun j => (num4 x.d j).1)) [n] (some ⟨w3.heap.size, 0, none⟩) 1 1 (fun _ => True) (fun _ => False) rfl rfl HR4.out HC4.out (fun x cs h => h) (fun _ hk => hk.elim) (fun _ _ => trivial) HB4.out HB4.out.size (by simp) ?_
            intro v2 w5 ho hb hg _
            obtain ⟨A2, c2, rfl⟩ := Kd.R_slice ho
            have HO := Aside0.mk ho
            have HB5 := Aside0.mk hb
            clear ho hb hg HR4 HC4 HB4
            go_wp2_with fail
            go_roundg (4 - 2)
            case measure => have := HI.out; omega
            case rel => exact ⟨2, 2, A2, c2, ⟨by have := HI.out; omega⟩, ⟨rfl⟩, rfl, by simp, ⟨fun j hj => by rcases Nat.lt_succ_iff_lt_or_eq.1 hj with h | h; exact HZ.out j h; rw [h]; exact HQQ.out.symm⟩, ⟨by rw [List.range_succ, List.map_append, List.map_singleton, ← HNN.out]; have := HO.out; simp only [List.length_append, List.length_map, List.length_range, List.length_singleton] at this; exact this⟩, HB5⟩
        · obtain rfl : I = 2 := HII.out
          have x4 : wr.cell? ⟨sx, 4, none⟩ = some (.slice (some a) 16 c1) := by have := cell_blk (k := 4) HXr.out.sec; rw [← HM.out] at this; exact this
          have h16 := H16.out
          go_wp2_with fail
          clear h16
          refine (xunfix_any (some (a.add 8)) (c1 - 8) ((x.d.drop (4 * 2)).take 4) 4 (by rw [List.length_take, List.length_drop, ← HM.out]; decide) (by have := mid_C (HXr.out.row _ (Below.refl _ _)) 8 4 (by rw [← HM.out]; decide); exact this) (by have := H16.out; omega) (take_byte HXB.out _ _)).mono ?_
          rintro r w3 ⟨rfl, b3⟩
          have HX3 := Aside0.mk (HXr.out.step b3)
          have HB3 := Aside0.mk (HB.out.trans (b3.mono HB.out.size))
          have HR3 := Aside0.mk (Kd.R_below HR.out b3)
          clear b3 x4 HXr HR HB
          obtain ⟨n, hn⟩ : ∃ n, n = (unfixP ((x.d.drop (4 * 2)).take 4)).1 := ⟨_, rfl⟩
          obtain ⟨q, hq⟩ : ∃ n, n = (unfixP ((x.d.drop (4 * 2)).take 4)).2 := ⟨_, rfl⟩
          rw [← hn, ← hq]
          have HNN := Aside0.mk (show n = (num4 x.d 2).1 from hn)
          have HQQ := Aside0.mk (show q = (num4 x.d 2).2 from hq)
          clear hn hq
          by_cases hq0 : q ≠ 0
          · have HN := Aside0.mk (HEN1.out (.inr ⟨2, by decide, by rw [← HQQ.out]; exact hq0⟩))
            obtain ⟨⟨p0, p1, p2, p3, p4, p5⟩, q0, q1, q2, q3, q4, q5⟩ := cells6 HX3.out.zero
            go_wp2_with fail
            refine bodyPost_ret (results_ct rfl _ _ w.heap.size 25 (sixU 0 0 0 0 0 0) (0, 0) _ rfl (six_set HX3.out.zero _ _ _ _ _ _) Try.underlying25 rfl (by kernel_rfl)) rfl ?_
            exact ⟨by rw [HN.out]; rfl, six_below HX3.out.below (Nat.le_refl _) _ _ _ _ _ _⟩
          · have hq1 : q = 0 := Classical.byContradiction hq0
            subst hq1
            clear hq0
            go_wp2_with ((with_reducible refine gate_builtin (b := .append) (xs := #[.tmp 46, .tmp 48]) rfl ?_); at_builtin; refine Hid.out ?_)
            refine Lib.hid ?_
            obtain ⟨w4, hw4⟩ : ∃ w4, w4 = w3.alloc (.cells #[.int .i64 n] 3) := ⟨_, rfl⟩
            have b4 : Below w3.heap.size w3 w4 := by rw [hw4]; exact (Below.refl _ _).alloc (Nat.le_refl _) _
            have hn4 : w4.heap[w3.heap.size]? = some (.cells (([n] : List Int).map (Value.int .i64)).toArray 3 (0, 0)) := by rw [hw4]; exact heap_alloc_new w3 _
            have HB4 := Aside0.mk (HB3.out.trans (b4.mono HB3.out.size))
            have HR4 := Aside0.mk (Kd.R_below HR3.out b4)
            have HC4 := Aside0.mk (rowI hn4 (by simp))
            rw [← hw4]
            clear hw4 b4 hn4 HX3 HR3 HB3
            refine Kd.R_append_rows (Kd.int .i64) (Rr := (Kd.int .i64).K w4) (w0 := w2) w2.heap.size rfl (.tmp 46) (.tmp 48) 37 3 (.int .i64 0) 8 rfl Try.underlying37 infoI64 rfl (by decide) (by omega) (.slice A' 2 c') ((List.range 2).map (fun j => (num4 x.d j).1)) [n] (some ⟨w3.heap.size, 0, none⟩) 1 1 (fun _ => True) (fun _ => False) rfl rfl HR4.out HC4.out (fun x cs h => h) (fun _ hk => hk.elim) (fun _ _ => trivial) HB4.out HB4.out.size (by simp) ?_
            intro v2 w5 ho hb hg _
            obtain ⟨A2, c2, rfl⟩ := Kd.R_slice ho
            have HO := Aside0.mk ho
            have HB5 := Aside0.mk hb
            clear ho hb hg HR4 HC4 HB4
            go_wp2_with fail
            go_roundg (4 - 3)
            case measure => have := HI.out; omega
            case rel => exact ⟨3, 3, A2, c2, ⟨by have := HI.out; omega⟩, ⟨rfl⟩, rfl, by simp, ⟨fun j hj => by rcases Nat.lt_succ_iff_lt_or_eq.1 hj with h | h; exact HZ.out j h; rw [h]; exact HQQ.out.symm⟩, ⟨by rw [List.range_succ, List.map_append, List.map_singleton, ← HNN.out]; have := HO.out; simp only [List.length_append, List.length_map, List.length_range, List.length_singleton] at this; exact this⟩, HB5⟩
        · obtain rfl : I = 3 := HII.out
          have x4 : wr.cell? ⟨sx, 4, none⟩ = some (.slice (some a) 16 c1) := by have := cell_blk (k := 4) HXr.out.sec; rw [← HM.out] at this; exact this
          have h16 := H16.out
          go_wp2_with fail
          clear h16
          refine (xunfix_any (some (a.add 12)) (c1 - 12) ((x.d.drop (4 * 3)).take 4) 4 (by rw [List.length_take, List.length_drop, ← HM.out]; decide) (by have := mid_C (HXr.out.row _ (Below.refl _ _)) 12 4 (by rw [← HM.out]; decide); exact this) (by have := H16.out; omega) (take_byte HXB.out _ _)).mono ?_
          rintro r w3 ⟨rfl, b3⟩
          have HX3 := Aside0.mk (HXr.out.step b3)
          have HB3 := Aside0.mk (HB.out.trans (b3.mono HB.out.size))
          have HR3 := Aside0.mk (Kd.R_below HR.out b3)
          clear b3 x4 HXr HR HB
          obtain ⟨n, hn⟩ : ∃ n, n = (unfixP ((x.d.drop (4 * 3)).take 4)).1 := ⟨_, rfl⟩
          obtain ⟨q, hq⟩ : ∃ n, n = (unfixP ((x.d.drop (4 * 3)).take 4)).2 := ⟨_, rfl⟩
          rw [← hn, ← hq]
          have HNN := Aside0.mk (show n = (num4 x.d 3).1 from hn)
          have HQQ := Aside0.mk (show q = (num4 x.d 3).2 from hq)
          clear hn hq
          by_cases hq0 : q ≠ 0
          · have HN := Aside0.mk (HEN1.out (.inr ⟨3, by decide, by rw [← HQQ.out]; exact hq0⟩))
            obtain ⟨⟨p0, p1, p2, p3, p4, p5⟩, q0, q1, q2, q3, q4, q5⟩ := cells6 HX3.out.zero
            go_wp2_with fail
            refine bodyPost_ret (results_ct rfl _ _ w.heap.size 25 (sixU 0 0 0 0 0 0) (0, 0) _ rfl (six_set HX3.out.zero _ _ _ _ _ _) Try.underlying25 rfl (by kernel_rfl)) rfl ?_
            exact ⟨by rw [HN.out]; rfl, six_below HX3.out.below (Nat.le_refl _) _ _ _ _ _ _⟩
          · have hq1 : q = 0 := Classical.byContradiction hq0
            subst hq1
            clear hq0
            go_wp2_with ((with_reducible refine gate_builtin (b := .append) (xs := #[.tmp 46, .tmp 48]) rfl ?_); at_builtin; refine Hid.out ?_)
            refine Lib.hid ?_
            obtain ⟨w4, hw4⟩ : ∃ w4, w4 = w3.alloc (.cells #[.int .i64 n] 3) := ⟨_, rfl⟩
            have b4 : Below w3.heap.size w3 w4 := by rw [hw4]; exact (Below.refl _ _).alloc (Nat.le_refl _) _
            have hn4 : w4.heap[w3.heap.size]? = some (.cells (([n] : List Int).map (Value.int .i64)).toArray 3 (0, 0)) := by rw [hw4]; exact heap_alloc_new w3 _
            have HB4 := Aside0.mk (HB3.out.trans (b4.mono HB3.out.size))
            have HR4 := Aside0.mk (Kd.R_below HR3.out b4)
            have HC4 := Aside0.mk (rowI hn4 (by simp))
            rw [← hw4]
            clear hw4 b4 hn4 HX3 HR3 HB3
            refine Kd.R_append_rows (Kd.int .i64) (Rr := (Kd.int .i64).K w4) (w0 := w2) w2.heap.size rfl (.tmp 46) (.tmp 48) 37 3 (.int .i64 0) 8 rfl Try.underlying37 infoI64 rfl (by decide) (by omega) (.slice A' 3 c') ((List.range 3).map (fun j => (num4 x.d j).1)) [n] (some ⟨w3.heap.size, 0, none⟩) 1 1 (fun _ => True) (fun _ => False) rfl rfl HR4.out HC4.out (fun x cs h => h) (fun _ hk => hk.elim) (fun _ _ => trivial) HB4.out HB4.out.size (by simp) ?_
            intro v2 w5 ho hb hg _
            obtain ⟨A2, c2, rfl⟩ := Kd.R_slice ho
            have HO := Aside0.mk ho
            have HB5 := Aside0.mk hb
            clear ho hb hg HR4 HC4 HB4
            go_wp2_with fail
            go_roundg (4 - 4)
            case measure => have := HI.out; omega
            case rel => exact ⟨4, 4, A2, c2, ⟨by have := HI.out; omega⟩, ⟨rfl⟩, rfl, by simp, ⟨fun j hj => by rcases Nat.lt_succ_iff_lt_or_eq.1 hj with h | h; exact HZ.out j h; rw [h]; exact HQQ.out.symm⟩, ⟨by rw [List.range_succ, List.map_append, List.map_singleton, ← HNN.out]; have := HO.out; simp only [List.length_append, List.length_map, List.length_range, List.length_singleton] at this; exact this⟩, HB5⟩
        · obtain rfl : I = 4 := HII.out
          obtain ⟨n0, hn0⟩ : ∃ n, n = (num4 x.d 0).1 := ⟨_, rfl⟩
          obtain ⟨n1, hn1⟩ : ∃ n, n = (num4 x.d 1).1 := ⟨_, rfl⟩
          obtain ⟨n2, hn2⟩ : ∃ n, n = (num4 x.d 2).1 := ⟨_, rfl⟩
          obtain ⟨n3, hn3⟩ : ∃ n, n = (num4 x.d 3).1 := ⟨_, rfl⟩
          have hlist : (List.range 4).map (fun j => (num4 x.d j).1) = [n0, n1, n2, n3] := by rw [hn0, hn1, hn2, hn3]; rfl
          have HOF := Aside0.mk (show ofSec x = ⟨x.e, x.n, n0, n1, n2, n3⟩ by
            have e : ∀ j, j < 4 → numP ((x.d.drop (4 * j)).take 4) = (num4 x.d j).1 := fun j hj => by rw [numP4, if_neg (by rw [HZ.out j hj]; decide)]
            unfold ofSec
            rw [hn0, hn1, hn2, hn3, ← e 0 (by decide), ← e 1 (by decide), ← e 2 (by decide), ← e 3 (by decide)]
            rfl)
          have HEY2 := Aside0.mk (HEY1.out HM.out.symm)
          rw [hlist] at HR
          clear hn0 hn1 hn2 hn3 hlist HX HZ HEN1 HEY1
          obtain ⟨_, hown⟩ := Kd.own_of_R HR.out
          rcases hown with ⟨_, hz⟩ | ⟨gi, capi, curi, hei, _, hgi, _⟩
          · cases hz
          cases hei
          have hci := (Kd.R_reads' HR.out).2.2
          have hgl := blk_lt hgi
          have hcell : ∀ (y : World), Below wr.heap.size wr y → ∀ (j : Nat) (v : Int), j < 4 → ([n0, n1, n2, n3] : List Int).getD j 0 = v → y.cell? ⟨gi, j, none⟩ = some (.int .i64 v) := fun y hy j v hj hv => by
            obtain ⟨ad, ea, hx⟩ := Kd.at_int (Kd.C_below hci hy) (j : Int) (by omega) (by simp; omega)
            cases ea
            rw [Int.toNat_natCast] at hx
            have hadd : (⟨gi, 0, none⟩ : Addr).add j = ⟨gi, j, none⟩ := by unfold Addr.add; split <;> simp_all
            rw [hadd] at hx
            rw [hx, ← hv]
            rfl
          have HCL := Aside0.mk hcell
          clear hcell hci hgi hgl HR
          go_upto_region 14 with (fail)
          go_cut [10] from 50 to 67 (fun v10 wc => ∃ (ub : Nat), v10 = .pointer (some ⟨ub, 0, none⟩) ∧ Aside0 (Below wr.heap.size wr wc) ∧ Aside0 (wc.heap[ub]? = some (.cells (sixU x.e x.n n0 n1 n2 n3) 25 (0, 0))))
          case first =>
            refine Go.Reg.region (Below wr.heap.size wr) [.s, .s, .s, .s, .s, .s, .s, .s, .s, .s, .s, .s, .s, .s, .s, .s, .s, .s, .w, .x] (by kernel_rfl) (by kernel_rfl) (below_drew1 (Below.refl _ _)) (fun ne => ?_)
            have m1 : ∀ m : Go.Reg.In (Below wr.heap.size wr), m.w.cell? ⟨sx, 1, none⟩ = some (.int .i64 x.e) := fun m => cell_blk ((m.h.block sx (blk_lt HXr.out.sec)).trans HXr.out.sec)
            have m2 : ∀ m : Go.Reg.In (Below wr.heap.size wr), m.w.cell? ⟨sx, 2, none⟩ = some (.int .i64 x.n) := fun m => cell_blk ((m.h.block sx (blk_lt HXr.out.sec)).trans HXr.out.sec)
            have i0 : ∀ m : Go.Reg.In (Below wr.heap.size wr), m.w.cell? ⟨gi, 0, none⟩ = some (.int .i64 n0) := fun m => HCL.out m.w m.h 0 n0 (by decide) rfl
            have i1 : ∀ m : Go.Reg.In (Below wr.heap.size wr), m.w.cell? ⟨gi, 1, none⟩ = some (.int .i64 n1) := fun m => HCL.out m.w m.h 1 n1 (by decide) rfl
            have i2 : ∀ m : Go.Reg.In (Below wr.heap.size wr), m.w.cell? ⟨gi, 2, none⟩ = some (.int .i64 n2) := fun m => HCL.out m.w m.h 2 n2 (by decide) rfl
            have i3 : ∀ m : Go.Reg.In (Below wr.heap.size wr), m.w.cell? ⟨gi, 3, none⟩ = some (.int .i64 n3) := fun m => HCL.out m.w m.h 3 n3 (by decide) rfl
            refine Go.Reg.lex_q 18 _ _ _ _ (by rfl) ?_; simp only [List.take_succ_cons, List.take_zero, List.drop_succ_cons, List.drop_zero]; (repeat (go_big_quiet_step (rfl))); refine wpQuiet_nil ?_
            clear m1 m2 i0 i1 i2 i3
            refine Go.Reg.step_w (fun KK hKK => ?_)
            go_wp2_with fail
            obtain ⟨w3, hw3⟩ : ∃ w3, w3 = (wr.alloc (.cells (sixU 0 0 0 0 0 0) 25)).drew := ⟨_, rfl⟩
            have hal : Below wr.heap.size wr w3 := by rw [hw3]; exact below_drew1 ((Below.refl wr.heap.size wr).alloc (Nat.le_refl _) (.cells (sixU 0 0 0 0 0 0) 25))
            have hnb : w3.heap[wr.heap.size]? = some (.cells (sixU 0 0 0 0 0 0) 25 (0, 0)) := by rw [hw3]; exact heap_alloc_new wr (.cells (sixU 0 0 0 0 0 0) 25)
            rw [← hw3]
            have HB3 := Aside0.mk hal
            obtain ⟨ub, hub⟩ : ∃ ub, ub = wr.heap.size := ⟨_, rfl⟩
            have HUB := Aside0.mk (show wr.heap.size ≤ ub by omega)
            rw [← hub] at hnb
            rw [← hub]
            have HNB := Aside0.mk hnb
            clear hw3 hal hnb hub
            refine hKK.out _ _ HB3.out ?_
            clear hKK KK
            obtain ⟨⟨e0, e1, e2, e3, e4, e5⟩, g0, g1, g2, g3, g4, g5⟩ := cells6 HNB.out
            refine Go.Reg.step_x (by rfl) (fun KK hKK => ?_)
            go_wp2_with fail
            refine hKK.out _ _ ?_
            clear hKK KK
            try simp only [Act.put, List.setIfInBounds_toArray, List.set_cons_succ, List.set_cons_zero]
            refine Go.Reg.lex_nil ?_
            clear e0 e1 e2 e3 e4 e5 g0 g1 g2 g3 g4 g5
            go_wp2_with fail
            go_meet
            case rel => exact ⟨ub, rfl, ⟨six_below HB3.out HUB.out _ _ _ _ _ _⟩, ⟨six_set HNB.out _ _ _ _ _ _⟩⟩
          case rest =>
            obtain ⟨ub, rfl, HBC, HU⟩ := hcut
            have HX7 := Aside0.mk (HXr.out.step HBC.out)
            clear HXr HCL
            obtain ⟨⟨e0, e1, e2, e3, e4, e5⟩, _⟩ := cells6 HU.out
            have hp := xsput_any (w := wc) x.e x.n n0 n1 n2 n3
            obtain ⟨P, hP⟩ : ∃ P, P = putU x.e x.n n0 n1 n2 n3 := ⟨_, rfl⟩
            rw [← hP] at hp
            have HPR := Aside0.mk (show R = if P.2 = 0 ∧ P.1 = l then (⟨x.e, x.n, n0, n1, n2, n3⟩, 0) else (zeroU, 5) by rw [HEY2.out, HOF.out, hP])
            have HPB := Aside0.mk (show ∀ y ∈ P.1, 0 ≤ y ∧ y ≤ 255 by rw [hP]; exact put_bytes _ _ _ _ _ _)
            have HPP := Aside0.mk hp
            clear hP hp HEY2 HOF
            go_wp2_with fail
            refine HPP.out.mono ?_
            clear HPP
            rintro r w8 ⟨A8, c8, rfl, _, hr8, b8⟩
            have HX8 := Aside0.mk (HX7.out.step b8)
            have HU8 := Aside0.mk ((b8.block _ (blk_lt HU.out)).trans HU.out)
            have HL8 := Aside0.mk (Kd.C_below HC.out (below_up HX8.out.below))
            clear HX7 b8 e0 e1 e2 e3 e4 e5 HU
            obtain ⟨T, hT⟩ : ∃ T, T = strOfNums P.1 := ⟨_, rfl⟩
            obtain ⟨U, hU⟩ : ∃ U, U = strOfNums l := ⟨_, rfl⟩
            have hcv1 : (convert 26 9 (.slice A8 P.1.length c8)).run Try.prog w8 = .ok (.string T) w8 := by rw [hT]; exact strC (hr8 _ (Below.refl _ _))
            have hcv2 : (convert 26 9 (.slice A l.length c)).run Try.prog w8 = .ok (.string U) w8 := by rw [hU]; exact strC HL8.out
            obtain ⟨e2, he2⟩ : ∃ e2, e2 = P.2 := ⟨_, rfl⟩
            obtain ⟨pl, hpl⟩ : ∃ pl, pl = P.1.length := ⟨_, rfl⟩
            have HTU := Aside0.mk (show T.toList = U.toList → P.1 = l from fun h => str_inj HPB.out HBY.out (by rw [← hT, ← hU]; exact h))
            have HTU2 := Aside0.mk (show P.1 = l → T = U from fun h => by rw [hT, hU, h])
            have HPR2 := Aside0.mk (show R = if e2 = 0 ∧ P.1 = l then (⟨x.e, x.n, n0, n1, n2, n3⟩, 0) else (zeroU, 5) by rw [he2]; exact HPR.out)
            rw [← he2, ← hpl]
            rw [← hpl] at hcv1
            clear hT hU he2 hpl hr8 HPR
            by_cases he : e2 = 0
            · subst he
              by_cases hpq : P.1 = l
              · have HN := Aside0.mk (show R = (⟨x.e, x.n, n0, n1, n2, n3⟩, 0) by rw [HPR2.out, if_pos ⟨rfl, hpq⟩])
                obtain rfl := HTU2.out hpq
                clear hpq
                obtain ⟨⟨e0, e1, e2, e3, e4, e5⟩, _⟩ := cells6 HU8.out
                obtain ⟨⟨p0, p1, p2, p3, p4, p5⟩, q0, q1, q2, q3, q4, q5⟩ := cells6 HX8.out.zero
                go_wp2_with fail
                refine bodyPost_ret (results_ct rfl _ _ w.heap.size 25 (sixU x.e x.n n0 n1 n2 n3) (0, 0) _ rfl (six_set HX8.out.zero _ _ _ _ _ _) Try.underlying25 rfl (by kernel_rfl)) rfl ?_
                exact ⟨by rw [HN.out]; rfl, six_below HX8.out.below (Nat.le_refl _) _ _ _ _ _ _⟩
              · have hne : (!T.toList == U.toList) = true := by simpa using (fun h => hpq (HTU.out h))
                have HN := Aside0.mk (show R = (zeroU, 5) by rw [HPR2.out, if_neg (fun h => hpq h.2)])
                clear hpq
                obtain ⟨⟨p0, p1, p2, p3, p4, p5⟩, q0, q1, q2, q3, q4, q5⟩ := cells6 HX8.out.zero
                go_wp2_with fail
                refine bodyPost_ret (results_ct rfl _ _ w.heap.size 25 (sixU 0 0 0 0 0 0) (0, 0) _ rfl (six_set HX8.out.zero _ _ _ _ _ _) Try.underlying25 rfl (by kernel_rfl)) rfl ?_
                exact ⟨by rw [HN.out]; rfl, six_below HX8.out.below (Nat.le_refl _) _ _ _ _ _ _⟩
            · have he' : (e2 != 0) = true := by simpa using he
              have HN := Aside0.mk (show R = (zeroU, 5) by rw [HPR2.out, if_neg (fun h => he h.1)])
              obtain ⟨⟨p0, p1, p2, p3, p4, p5⟩, q0, q1, q2, q3, q4, q5⟩ := cells6 HX8.out.zero
              go_wp2_with fail
              refine bodyPost_ret (results_ct rfl _ _ w.heap.size 25 (sixU 0 0 0 0 0 0) (0, 0) _ rfl (six_set HX8.out.zero _ _ _ _ _ _) Try.underlying25 rfl (by kernel_rfl)) rfl ?_
              exact ⟨by rw [HN.out]; rfl, six_below HX8.out.below (Nat.le_refl _) _ _ _ _ _ _⟩
end Supr
end Go.Proofs.Ytopfjmeejpamjaa
end
section
namespace Go.Proofs.Ytopfjmeejpamjaa
set_option linter.unusedVariables false
set_option linter.unusedSimpArgs false
set_option linter.ambiguousOpen false
open Go.RowKit Go.Proofs.YtopfjmeejpamjaaW.PrintWords Go.Proofs.YtopfjmeejpamjaaW.PrintLast Go.Proofs.YtopfjmeejpamjaaW.PrintMore
namespace Supr
open Go.Num Go.Crc Go.Proofs.Ytopfjmeejpamjaa.Cell Go.Proofs.Ytopfjmeejpamjaa.Sect
theorem RDx_other {w : World} {base sb xb : Nat} {D : Go.Disk.Dk} {vs vw : Value} (h : Disk.RDx w base sb xb D vs vw) {ub : Nat} {uc : Array Value} (hu : w.heap[ub]? = some (.cells uc 25 (0, 0))) (k : Nat) (v : Value) : Disk.RDx (w.setCell ⟨ub, k, none⟩ v) base sb xb D vs vw :=
  ⟨h.ok, h.xbase, by simpa [World.setCell] using h.slt, h.sown, h.wown, (Below.heap_setCell _ _ _ _ (tag_ne h.cells hu (by decide))).trans h.cells, Kd.R_set h.safe hu (by decide) k v, Kd.R_set h.waits hu (by decide) k v⟩
theorem RD_six {w : World} {base sb xb : Nat} {D : Go.Disk.Dk} (h : Disk.RD w base sb xb D) {ub : Nat} {a0 a1 a2 a3 a4 a5 : Value} (hu : w.heap[ub]? = some (.cells #[a0, a1, a2, a3, a4, a5] 25 (0, 0))) (v0 v1 v2 v3 v4 v5 : Value) : Disk.RD ((((((w.setCell ⟨ub, 0, none⟩ v0).setCell ⟨ub, 1, none⟩ v1).setCell ⟨ub, 2, none⟩ v2).setCell ⟨ub, 3, none⟩ v3).setCell ⟨ub, 4, none⟩ v4).setCell ⟨ub, 5, none⟩ v5) base sb xb D := by
  obtain ⟨vs, vw, h⟩ := h
  have h1 := blk_set hu 0 v0
  have h2 := blk_set h1 1 v1
  have h3 := blk_set h2 2 v2
  have h4 := blk_set h3 3 v3
  have h5 := blk_set h4 4 v4
  exact ⟨vs, vw, RDx_other (RDx_other (RDx_other (RDx_other (RDx_other (RDx_other h hu 0 v0) h1 1 v1) h2 2 v2) h3 3 v3) h4 4 v4) h5 5 v5⟩
theorem rd_tag {w : World} {base sb xb : Nat} {D : Go.Disk.Dk} (h : Disk.RD w base sb xb D) : ∃ cs, w.heap[xb]? = some (.cells cs 103 (0, 0)) := by
  obtain ⟨vs, vw, h⟩ := h
  exact ⟨_, h.cells⟩
theorem keep_superX {w w' : World} {base sb xb ub : Nat} {D : Go.Disk.Dk} {uc : Array Value} (h : Disk.RD w base sb xb D) (f : Disk.FX base xb w w') (hu : w.heap[ub]? = some (.cells uc 25 (0, 0))) : w'.heap[ub]? = some (.cells uc 25 (0, 0)) := by
  obtain ⟨_, h1⟩ := rd_tag h
  exact (f.block ub (blk_lt hu) (fun e => tag_ne hu h1 (by decide) e) (fun c t fz hc e => by
    rw [hu] at hc
    cases hc
    rcases e.2 with e | e <;> exact absurd e (by decide))).trans hu
structure RX (w0 w : World) (base sb xb bb : Nat) (D : Go.Disk.Dk) (best : SU) : Prop where
  fx : Disk.FX base xb w0 w
  zero : w.heap[w0.heap.size]? = some (.cells (sixU 0 0 0 0 0 0) 25 (0, 0))
  best : w.heap[bb]? = some (.cells (sixU best.g best.b best.l best.p best.q best.o) 25 (0, 0))
  rd : Disk.RD w base sb xb D
  far : w0.heap.size < bb
theorem RX.step {w0 w w' : World} {base sb xb bb : Nat} {D : Go.Disk.Dk} {best : SU} (h : RX w0 w base sb xb bb D best) (f : Below w.heap.size w w') : RX w0 w' base sb xb bb D best :=
  ⟨h.fx.trans (.of_below f), (f.block _ (blk_lt h.zero)).trans h.zero, (f.block _ (blk_lt h.best)).trans h.best, h.rd.below f, h.far⟩
theorem RX.read {w0 w w' : World} {base sb xb bb : Nat} {D D' : Go.Disk.Dk} {best : SU} (h : RX w0 w base sb xb bb D best) (f : Disk.FX base xb w w') (p : Disk.RD w' base sb xb D') : RX w0 w' base sb xb bb D' best :=
  ⟨h.fx.trans f, keep_superX h.rd f h.zero, keep_superX h.rd f h.best, p, h.far⟩
theorem RX.set {w0 w : World} {base sb xb bb : Nat} {D : Go.Disk.Dk} {best : SU} (h : RX w0 w base sb xb bb D best) (s : SU) : RX w0 ((((((w.setCell ⟨bb, 0, none⟩ (.int .i64 s.g)).setCell ⟨bb, 1, none⟩ (.int .i64 s.b)).setCell ⟨bb, 2, none⟩ (.int .i64 s.l)).setCell ⟨bb, 3, none⟩ (.int .i64 s.p)).setCell ⟨bb, 4, none⟩ (.int .i64 s.q)).setCell ⟨bb, 5, none⟩ (.int .i64 s.o)) base sb xb bb D s :=
  ⟨Fr_then h.fx (six_below (Below.refl _ w) (Nat.le_of_lt h.far) _ _ _ _ _ _), (six_but _ _ _ _ _ _ _ (Nat.ne_of_lt h.far)).trans h.zero, six_set h.best _ _ _ _ _ _, RD_six h.rd h.best _ _ _ _ _ _, h.far⟩
end Supr
end Go.Proofs.Ytopfjmeejpamjaa
end
section
namespace Go.Proofs.Ytopfjmeejpamjaa
set_option linter.unusedVariables false
set_option linter.unusedSimpArgs false
set_option linter.ambiguousOpen false
open Go.RowKit Go.Proofs.YtopfjmeejpamjaaW.PrintWords Go.Proofs.YtopfjmeejpamjaaW.PrintLast Go.Proofs.YtopfjmeejpamjaaW.PrintMore
namespace Supr
open Go.Num Go.Crc Go.Proofs.Ytopfjmeejpamjaa.Cell Go.Proofs.Ytopfjmeejpamjaa.Sect
def s7 : SU := ⟨7, 16, 3, 9, 40, 7⟩
def s17 : SU := ⟨8, 17, 8, 0, 0, 0⟩
def s9 : SU := ⟨8, 16, 9, 0, 0, 0⟩
abbrev D0 : Go.Disk.Dk := Go.Disk.blankD 16
def D1 : Go.Disk.Dk := readDk D0
def D2 : Go.Disk.Dk := (writeU D1 s7).1
def D3 : Go.Disk.Dk := readDk D2
def D4 : Go.Disk.Dk := Disk.readF D3 1
def one256 : List Int := Disk.blockOf [1]
def D5 : Go.Disk.Dk := (Disk.writeD D4 1 one256).1
theorem ex0 : readU D0 = (zeroU, 6) := by kernel_rfl
theorem ex1 : (writeU D1 s7).2 = 0 := by kernel_rfl
theorem ex2 : readU D2 = (s7, 0) := by kernel_rfl
theorem ex3 : Go.Disk.ready D3 1 = 0 := by kernel_rfl
theorem ex4 : getU ((Disk.readV D3 1).take 64) = (s7, 0) := by kernel_rfl
theorem ex5 : writeU D4 s17 = (D4, 1) := by kernel_rfl
theorem ex6 : writeU D4 s9 = (D4, 1) := by kernel_rfl
theorem ex7 : readU D5 = (zeroU, 13) := by kernel_rfl
theorem ex8 : s7.ok = true := by kernel_rfl
theorem ex9 : (⟨0, 0, 0, 0, 0, 0⟩ : SU).ok = false := by kernel_rfl
theorem ex10 : D0.waits.length = 0 ∧ D1.waits.length = 0 ∧ D2.waits.length = 0 ∧ D3.waits.length = 0 ∧ D4.waits.length = 0 ∧ D5.waits.length = 1 ∧ (Disk.readV D3 1).length = 256 := by refine ⟨?_, ?_, ?_, ?_, ?_, ?_, ?_⟩ <;> kernel_rfl
theorem exB : ∀ y ∈ Disk.readV D3 1, 0 ≤ y ∧ y ≤ 255 := by
  have : (Disk.readV D3 1).all (fun y => decide (0 ≤ y ∧ y ≤ 255)) = true := by kernel_rfl
  rw [List.all_eq_true] at this
  exact fun y hy => of_decide_eq_true (this y hy)
theorem exC : ∀ y ∈ one256, 0 ≤ y ∧ y ≤ 255 := by
  have : one256.all (fun y => decide (0 ≤ y ∧ y ≤ 255)) = true := by kernel_rfl
  rw [List.all_eq_true] at this
  exact fun y hy => of_decide_eq_true (this y hy)
theorem exL : one256.length = 256 := by kernel_rfl
end Supr
end Go.Proofs.Ytopfjmeejpamjaa
end
section
namespace Go.Proofs.Ytopfjmeejpamjaa
set_option linter.unusedVariables false
set_option linter.unusedSimpArgs false
set_option linter.ambiguousOpen false
open Go.RowKit Go.Proofs.YtopfjmeejpamjaaW.PrintWords Go.Proofs.YtopfjmeejpamjaaW.PrintLast Go.Proofs.YtopfjmeejpamjaaW.PrintMore
namespace Supr
open Go.Num Go.Crc Go.Proofs.Ytopfjmeejpamjaa.Cell Go.Proofs.Ytopfjmeejpamjaa.Sect
def eqU (s t : SU) : Bool := s.g == t.g && (s.b == t.b && (s.l == t.l && (s.p == t.p && (s.q == t.q && s.o == t.o))))
theorem eqU_iff (s t : SU) : eqU s t = true ↔ s = t := by
  obtain ⟨a, b, c, d, e, f⟩ := s
  obtain ⟨a', b', c', d', e', f'⟩ := t
  unfold eqU
  simp
theorem eq_super (s t : SU) (w : World) : (Op.equalIn 10000 25 s.v t.v).run Try.prog w = .ok (eqU s t) w := by
  have u3 := Try.underlying3
  have a3 := Try.isAgg3
  have z3 := Try.sizeOf3
  have u4 := Try.underlying23
  have a4 := Try.isAgg23
  have z4 := Try.sizeOf23
  rw [show (10000 : Nat) = 9999 + 1 from rfl, Op.equalIn]
  simp only [Sem.run_bind, run_underlying Try.underlying25, Result.andThen_ok]
  go_simp
  unfold eqU
  by_cases h1 : s.g = t.g <;> by_cases h2 : s.b = t.b <;> by_cases h3 : s.l = t.l <;> by_cases h4 : s.p = t.p <;> by_cases h5 : s.q = t.q <;> by_cases h6 : s.o = t.o <;> simp [h1, h2, h3, h4, h5, h6]
theorem eq_self (s : SU) (w : World) : (Op.equalIn 10000 25 s.v s.v).run Try.prog w = .ok true w := by
  rw [eq_super, (eqU_iff s s).2 rfl]
set_option maxHeartbeats 16000000 in
set_option maxRecDepth 100000 in
theorem sread_nil {w : World} : Calls Try.prog 18 #[.pointer none] w fun r w' => r = .returned (.tuple #[zeroU.v, .int .i64 8]) ∧ Below w.heap.size w w' := by
  obtain ⟨w1, hw1⟩ : ∃ w1, w1 = (w.alloc (.cells (sixU 0 0 0 0 0 0) 25)).alloc (.cells (sixU 0 0 0 0 0 0) 25) := ⟨_, rfl⟩
  have HB1 := Aside0.mk (show Below w.heap.size w w1 by rw [hw1]; exact ((Below.refl _ _).alloc (Nat.le_refl _) _).alloc (by simp) _)
  have HZ := Aside0.mk (show w1.heap[w.heap.size]? = some (.cells (sixU 0 0 0 0 0 0) 25 (0, 0)) by
    rw [hw1, Below.heap_alloc _ _ _ (by simp)]
    exact heap_alloc_new w _)
  have HW1 := Aside0.mk hw1
  clear hw1
  go_enter Try.func18, Try.ntmps18
  go_wp2_with fail
  rw [← HW1.out]
  go_loopg [10, 5] 2 (fun gk v10 v5 wr => gk = 2 ∧ v10 = .int .i64 0 ∧ v5 = .bool true ∧ wr = w1)
  case atStart => exact ⟨rfl, rfl, rfl, rfl⟩
  case round =>
    obtain ⟨rfl, rfl, rfl, rfl⟩ := hrel
    go_wp2_with fail
    refine (Disk.read_nil _).mono ?_
    rintro r w2 ⟨rfl, hw2⟩
    obtain rfl : w2 = wr := hw2
    obtain ⟨⟨p0, p1, p2, p3, p4, p5⟩, q0, q1, q2, q3, q4, q5⟩ := cells6 HZ.out
    go_wp2_with fail
    refine bodyPost_ret (results_ct rfl _ _ w.heap.size 25 (sixU 0 0 0 0 0 0) (0, 0) _ rfl (six_set HZ.out _ _ _ _ _ _) Try.underlying25 rfl (by kernel_rfl)) rfl ?_
    exact ⟨rfl, six_below HB1.out (Nat.le_refl _) _ _ _ _ _ _⟩
structure AW (w0 w : World) (db sb : Nat) (D : Go.Disk.Dk) : Prop where
  bel : Below w0.heap.size w0 w
  pd : Disk.PD w w0.heap.size db sb D
  ldb : w0.heap.size ≤ db
  lsb : w0.heap.size ≤ sb
theorem AW.step {w0 w w' : World} {db sb : Nat} {D : Go.Disk.Dk} (h : AW w0 w db sb D) (b : Below w.heap.size w w') : AW w0 w' db sb D :=
  ⟨h.bel.trans (b.mono h.bel.size), h.pd.below b, h.ldb, h.lsb⟩
theorem AW.disk {w0 w w' : World} {db sb : Nat} {D D' : Go.Disk.Dk} (h : AW w0 w db sb D) (f : Disk.FP w0.heap.size db sb w w') (p : Disk.PD w' w0.heap.size db sb D') : AW w0 w' db sb D' :=
  ⟨h.bel.trans (Disk.FP.below f h.ldb h.lsb h.bel.size), p, h.ldb, h.lsb⟩
abbrev Sup (w : World) (b : Nat) (s : SU) : Prop := w.heap[b]? = some (.cells (sixU s.g s.b s.l s.p s.q s.o) 25 (0, 0))
theorem Sup.step {w w' : World} {b : Nat} {s : SU} (h : Sup w b s) (f : Below w.heap.size w w') : Sup w' b s := (f.block _ (blk_lt h)).trans h
theorem one_row {w : World} {b : Nat} {x : Int} (h : w.heap[b]? = some (.cells #[.int .u8 x] 5 (0, 0))) : Kd.C (Kd.int .u8) w (some ⟨b, 0, none⟩) [x].length [x] := by
  have hb : w.heap[b]? = some (.cells (([x] : List Int).map (Value.int .u8) ++ []).toArray 5 (0, 0)) := h
  exact row_at (row_of (base := 0) (ok := fun _ => True) hb (Nat.zero_le _) trivial rfl (by simp))
set_option maxHeartbeats 32000000 in
set_option maxRecDepth 100000 in
theorem awake_any (w : World) : Calls Try.prog 11 #[] w fun e w' => e = .returned (.bool true) ∧ Below w.heap.size w w' := by
  go_enter Try.func11, Try.ntmps11
  go_wp2_with fail
  refine (Disk.blank_yes 16 w (by omega)).mono ?_
  rintro e w1 ⟨db, sb, rfl, p1, b1⟩
  have HA := Aside0.mk (show AW w w1 db sb D0 from ⟨b1, p1, by obtain ⟨_, _, _, h⟩ := p1; exact h.dbase, by obtain ⟨_, _, _, h⟩ := p1; exact h.sbase⟩)
  clear p1 b1
  go_wp2_with fail
  have hr := sread_any HA.out.pd (by rw [ex10.1]; decide)
  rw [ex0] at hr
  refine hr.mono ?_
  clear hr
  rintro e w2 ⟨rfl, p2, f2⟩
  replace HA := Aside0.mk (show AW w w2 db sb D1 from HA.out.disk f2 p2)
  clear p2 f2
  go_wp2_with fail
  obtain ⟨w4, hw4⟩ : ∃ z, z = (w2.alloc (.cells #[.int .i64 zeroU.g, .int .i64 zeroU.b, .int .i64 zeroU.l, .int .i64 zeroU.p, .int .i64 zeroU.q, .int .i64 zeroU.o] 25)).alloc (.cells (sixU 7 16 3 9 40 7) 25) := ⟨_, rfl⟩
  have b4 : Below w2.heap.size w2 w4 := by rw [hw4]; exact ((Below.refl _ _).alloc (Nat.le_refl _) _).alloc (by simp) _
  have HS := Aside0.mk (show Sup w4 (w2.heap.size + 1) s7 by
    rw [hw4]
    have := heap_alloc_new (w2.alloc (.cells #[.int .i64 zeroU.g, .int .i64 zeroU.b, .int .i64 zeroU.l, .int .i64 zeroU.p, .int .i64 zeroU.q, .int .i64 zeroU.o] 25)) (.cells (sixU 7 16 3 9 40 7) 25)
    rw [World.size_alloc] at this
    exact this)
  replace HA := Aside0.mk (HA.out.step b4)
  rw [← hw4]
  obtain ⟨us, hus⟩ : ∃ us, us = w2.heap.size + 1 := ⟨_, rfl⟩
  rw [← hus] at HS ⊢
  clear hw4 b4 hus
  have hr := swrite_any HA.out.pd s7 (by rw [ex10.2.1]; decide)
  rw [ex1] at hr
  refine hr.mono ?_
  clear hr
  rintro e w5 ⟨rfl, p5, f5⟩
  replace HS := Aside0.mk (show Sup w5 us s7 from keep_super HA.out.pd f5 HS.out)
  replace HA := Aside0.mk (show AW w w5 db sb D2 from HA.out.disk f5 p5)
  clear p5 f5
  go_wp2_with fail
  have hr := sread_any HA.out.pd (by rw [ex10.2.2.1]; decide)
  rw [ex2] at hr
  refine hr.mono ?_
  clear hr
  rintro e w6 ⟨rfl, p6, f6⟩
  replace HS := Aside0.mk (show Sup w6 us s7 from keep_super HA.out.pd f6 HS.out)
  replace HA := Aside0.mk (show AW w w6 db sb D3 from HA.out.disk f6 p6)
  clear p6 f6
  go_wp2_with fail
  obtain ⟨w7, hw7⟩ : ∃ z, z = w6.alloc (.cells #[.int .i64 s7.g, .int .i64 s7.b, .int .i64 s7.l, .int .i64 s7.p, .int .i64 s7.q, .int .i64 s7.o] 25) := ⟨_, rfl⟩
  have b7 : Below w6.heap.size w6 w7 := by rw [hw7]; exact (Below.refl _ _).alloc (Nat.le_refl _) _
  have HT := Aside0.mk (show Sup w7 w6.heap.size s7 by rw [hw7]; exact heap_alloc_new w6 _)
  replace HA := Aside0.mk (HA.out.step b7)
  replace HS := Aside0.mk (HS.out.step b7)
  rw [← hw7]
  obtain ⟨ut, hut⟩ : ∃ ut, ut = w6.heap.size := ⟨_, rfl⟩
  rw [← hut] at HT ⊢
  clear hw7 b7 hut
  have hr := Disk.read_uni HA.out.pd 1 (by rw [ex10.2.2.2.1]; decide)
  rw [ex3] at hr
  refine hr.mono ?_
  clear hr
  rintro e w8 ⟨v8, rfl, hr8, p8, f8⟩
  obtain ⟨A8, c8, rfl⟩ := Kd.R_slice hr8
  have HC8 := Aside0.mk (Kd.R_reads' hr8)
  replace HS := Aside0.mk (show Sup w8 us s7 from keep_super HA.out.pd f8 HS.out)
  replace HT := Aside0.mk (show Sup w8 ut s7 from keep_super HA.out.pd f8 HT.out)
  replace HA := Aside0.mk (show AW w w8 db sb D4 from HA.out.disk f8 p8)
  clear p8 f8 hr8
  rw [ex10.2.2.2.2.2.2] at HC8 ⊢
  obtain ⟨a8, rfl⟩ : ∃ a, A8 = some a := by obtain ⟨a, ha, _⟩ := HC8.out.2.2.2.2 (by decide); exact ⟨a, ha⟩
  have hc64 : 64 ≤ c8 := by have := HC8.out.2.1; omega
  go_wp2_with fail
  have hl64 : ((Disk.readV D3 1).take 64).length = 64 := by rw [List.length_take, ex10.2.2.2.2.2.2]; decide
  have hg := sget_any (w := w8) (some a8) c8 ((Disk.readV D3 1).take 64) (by rw [hl64]; have := HC8.out.2.2; rw [← ex10.2.2.2.2.2.2] at this; exact head_C this 64 (by rw [ex10.2.2.2.2.2.2]; decide)) (fun y hy => exB y (List.mem_of_mem_take hy)) (by rw [hl64]; exact hc64) (by rw [hl64]; decide)
  rw [hl64, ex4] at hg
  refine hg.mono ?_
  clear hg hl64 hc64 HC8
  rintro e w9 ⟨rfl, b9⟩
  replace HA := Aside0.mk (HA.out.step b9)
  replace HS := Aside0.mk (HS.out.step b9)
  replace HT := Aside0.mk (HT.out.step b9)
  clear b9
  go_wp2_with fail
  obtain ⟨w10, hw10⟩ : ∃ z, z = w9.alloc (.cells #[.int .i64 s7.g, .int .i64 s7.b, .int .i64 s7.l, .int .i64 s7.p, .int .i64 s7.q, .int .i64 s7.o] 25) := ⟨_, rfl⟩
  have b10 : Below w9.heap.size w9 w10 := by rw [hw10]; exact (Below.refl _ _).alloc (Nat.le_refl _) _
  have HX := Aside0.mk (show Sup w10 w9.heap.size s7 by rw [hw10]; exact heap_alloc_new w9 _)
  replace HA := Aside0.mk (HA.out.step b10)
  replace HS := Aside0.mk (HS.out.step b10)
  replace HT := Aside0.mk (HT.out.step b10)
  rw [← hw10]
  obtain ⟨ux, hux⟩ : ∃ ux, ux = w9.heap.size := ⟨_, rfl⟩
  rw [← hux] at HX ⊢
  clear hw10 b10 hux
  have hr := swrite_any HA.out.pd s17 (by rw [ex10.2.2.2.2.1]; decide)
  rw [ex5] at hr
  refine hr.mono ?_
  clear hr
  rintro e w11 ⟨rfl, p11, f11⟩
  replace HS := Aside0.mk (show Sup w11 us s7 from keep_super HA.out.pd f11 HS.out)
  replace HT := Aside0.mk (show Sup w11 ut s7 from keep_super HA.out.pd f11 HT.out)
  replace HX := Aside0.mk (show Sup w11 ux s7 from keep_super HA.out.pd f11 HX.out)
  replace HA := Aside0.mk (show AW w w11 db sb D4 from HA.out.disk f11 p11)
  clear p11 f11
  go_wp2_with fail
  have hr := swrite_any HA.out.pd s9 (by rw [ex10.2.2.2.2.1]; decide)
  rw [ex6] at hr
  refine hr.mono ?_
  clear hr
  rintro e w12 ⟨rfl, p12, f12⟩
  replace HS := Aside0.mk (show Sup w12 us s7 from keep_super HA.out.pd f12 HS.out)
  replace HT := Aside0.mk (show Sup w12 ut s7 from keep_super HA.out.pd f12 HT.out)
  replace HX := Aside0.mk (show Sup w12 ux s7 from keep_super HA.out.pd f12 HX.out)
  replace HA := Aside0.mk (show AW w w12 db sb D4 from HA.out.disk f12 p12)
  clear p12 f12
  go_wp2_with fail
  refine sread_nil.mono ?_
  rintro e w13 ⟨rfl, b13⟩
  replace HA := Aside0.mk (HA.out.step b13)
  replace HS := Aside0.mk (HS.out.step b13)
  replace HT := Aside0.mk (HT.out.step b13)
  replace HX := Aside0.mk (HX.out.step b13)
  clear b13
  go_wp2_with fail
  obtain ⟨w14, hw14⟩ : ∃ z, z = (w13.alloc (.cells #[.int .i64 zeroU.g, .int .i64 zeroU.b, .int .i64 zeroU.l, .int .i64 zeroU.p, .int .i64 zeroU.q, .int .i64 zeroU.o] 25)).alloc (.cells #[.int .u8 1] 5) := ⟨_, rfl⟩
  have b14 : Below w13.heap.size w13 w14 := by rw [hw14]; exact ((Below.refl _ _).alloc (Nat.le_refl _) _).alloc (by simp) _
  have hq : w14.heap[w13.heap.size + 1]? = some (.cells #[.int .u8 1] 5 (0, 0)) := by
    rw [hw14]
    have := heap_alloc_new (w13.alloc (.cells #[.int .i64 zeroU.g, .int .i64 zeroU.b, .int .i64 zeroU.l, .int .i64 zeroU.p, .int .i64 zeroU.q, .int .i64 zeroU.o] 25)) (.cells #[.int .u8 1] 5)
    rw [World.size_alloc] at this
    exact this
  rw [← hw14]
  clear hw14
  replace HA := Aside0.mk (HA.out.step b14)
  replace HS := Aside0.mk (HS.out.step b14)
  replace HT := Aside0.mk (HT.out.step b14)
  replace HX := Aside0.mk (HX.out.step b14)
  clear b14
  refine (Disk.Block_any _ 1 [1] (one_row hq) (Nat.le_refl _)).mono ?_
  rintro e w15 ⟨a15, c15, rfl, hc15, hr15, b15⟩
  have HR := Aside0.mk hr15
  clear hq hr15
  replace HA := Aside0.mk (HA.out.step b15)
  replace HS := Aside0.mk (HS.out.step b15)
  replace HT := Aside0.mk (HT.out.step b15)
  replace HX := Aside0.mk (HX.out.step b15)
  clear b15
  go_wp2_with fail
  have hr := Disk.write_uni HA.out.pd 1 (some a15) c15 one256 exC (fun y hy => by have := (Kd.R_reads' (Kd.R_below HR.out hy)).2.2; exact this) (by rw [ex10.2.2.2.2.1]; decide)
  rw [show one256.length = 256 from exL] at hr
  refine hr.mono ?_
  clear hr
  rintro e w16 ⟨rfl, p16, f16⟩
  replace HS := Aside0.mk (show Sup w16 us s7 from keep_super HA.out.pd f16 HS.out)
  replace HT := Aside0.mk (show Sup w16 ut s7 from keep_super HA.out.pd f16 HT.out)
  replace HX := Aside0.mk (show Sup w16 ux s7 from keep_super HA.out.pd f16 HX.out)
  replace HA := Aside0.mk (show AW w w16 db sb D5 from HA.out.disk f16 p16)
  clear p16 f16 HR
  go_wp2_with fail
  have hr := sread_any HA.out.pd (by rw [ex10.2.2.2.2.2.1]; decide)
  rw [ex7] at hr
  refine hr.mono ?_
  clear hr
  rintro e w17 ⟨rfl, p17, f17⟩
  replace HS := Aside0.mk (show Sup w17 us s7 from keep_super HA.out.pd f17 HS.out)
  replace HT := Aside0.mk (show Sup w17 ut s7 from keep_super HA.out.pd f17 HT.out)
  replace HX := Aside0.mk (show Sup w17 ux s7 from keep_super HA.out.pd f17 HX.out)
  have HB := Aside0.mk (HA.out.disk f17 p17).bel
  clear p17 f17 HA
  go_upto_region 13 with (fail)
  obtain ⟨w18, hw18⟩ : ∃ z, z = w17.alloc (.cells #[.int .i64 zeroU.g, .int .i64 zeroU.b, .int .i64 zeroU.l, .int .i64 zeroU.p, .int .i64 zeroU.q, .int .i64 zeroU.o] 25) := ⟨_, rfl⟩
  have b18 : Below w17.heap.size w17 w18 := by rw [hw18]; exact (Below.refl _ _).alloc (Nat.le_refl _) _
  replace HB := Aside0.mk (HB.out.trans (b18.mono HB.out.size))
  replace HS := Aside0.mk (HS.out.step b18)
  replace HT := Aside0.mk (HT.out.step b18)
  replace HX := Aside0.mk (HX.out.step b18)
  rw [← hw18]
  clear hw18 b18
  have hes := eq_self s7
  obtain ⟨⟨a10, a11, a12, a13, a14, a15⟩, _⟩ := cells6 HS.out
  obtain ⟨⟨c10, c11, c12, c13, c14, c15⟩, _⟩ := cells6 HT.out
  obtain ⟨⟨d10, d11, d12, d13, d14, d15⟩, _⟩ := cells6 HX.out
  go_wp2_with fail
  clear a10 a11 a12 a13 a14 a15 c10 c11 c12 c13 c14 c15 d10 d11 d12 d13 d14 d15
  refine (swrite_nil s7).mono ?_
  rintro e w19 ⟨rfl, b19⟩
  replace HB := Aside0.mk (HB.out.trans (b19.mono HB.out.size))
  replace HS := Aside0.mk (HS.out.step b19)
  replace HT := Aside0.mk (HT.out.step b19)
  replace HX := Aside0.mk (HX.out.step b19)
  clear b19
  obtain ⟨⟨a20, a21, a22, a23, a24, a25⟩, _⟩ := cells6 HS.out
  obtain ⟨⟨c20, c21, c22, c23, c24, c25⟩, _⟩ := cells6 HT.out
  obtain ⟨⟨d20, d21, d22, d23, d24, d25⟩, _⟩ := cells6 HX.out
  go_wp2_with fail
  clear a20 a21 a22 a23 a24 a25 c20 c21 c22 c23 c24 c25 d20 d21 d22 d23 d24 d25
  have hck := check_any (w := w19) s7.g s7.b s7.l s7.p s7.q s7.o
  rw [show supOk s7.g s7.b s7.l s7.p s7.q s7.o = true from ex8] at hck
  refine hck.mono ?_
  clear hck
  rintro e w20 ⟨rfl, b20⟩
  replace HB := Aside0.mk (HB.out.trans (b20.mono HB.out.size))
  replace HS := Aside0.mk (HS.out.step b20)
  replace HT := Aside0.mk (HT.out.step b20)
  replace HX := Aside0.mk (HX.out.step b20)
  clear b20
  go_wp2_with fail
  have hck := check_any (w := w20) 0 0 0 0 0 0
  rw [show supOk 0 0 0 0 0 0 = false from ex9] at hck
  refine hck.mono ?_
  clear hck
  rintro e w21 ⟨rfl, b21⟩
  replace HB := Aside0.mk (HB.out.trans (b21.mono HB.out.size))
  replace HS := Aside0.mk (HS.out.step b21)
  replace HT := Aside0.mk (HT.out.step b21)
  replace HX := Aside0.mk (HX.out.step b21)
  clear b21
  go_wp2_with fail
  go_ret
  exact ⟨rfl, HB.out⟩
end Supr
end Go.Proofs.Ytopfjmeejpamjaa
end
section
namespace Go.Proofs.Ytopfjmeejpamjaa
set_option linter.unusedVariables false
set_option linter.unusedSimpArgs false
set_option linter.ambiguousOpen false
open Go.RowKit Go.Proofs.YtopfjmeejpamjaaW.PrintWords Go.Proofs.YtopfjmeejpamjaaW.PrintLast Go.Proofs.YtopfjmeejpamjaaW.PrintMore
namespace Supr
open Go.Num Go.Crc Go.Proofs.Ytopfjmeejpamjaa.Cell Go.Proofs.Ytopfjmeejpamjaa.Sect
set_option maxHeartbeats 16000000 in
set_option maxRecDepth 100000 in
theorem gets_walk {w : World} (A : Option Addr) (c : Nat) (xs : List Int) (hC : Kd.C (Kd.int .u8) w A xs.length xs) (hc : xs.length ≤ c) (hb : ∀ y ∈ xs, 0 ≤ y ∧ y ≤ 255) :
    Calls Try.prog 4 #[.slice A xs.length c] w fun r w' => r = .returned (.bool true) ∧ Below w.heap.size w w' := by
  have HC := Aside0.mk hC
  have HBY := Aside0.mk hb
  have HCC := Aside0.mk hc
  obtain ⟨n, hn⟩ : ∃ n, n = xs.length := ⟨_, rfl⟩
  have HN := Aside0.mk hn.symm
  rw [← hn]
  clear hC hc hn
  by_cases h200 : n > 200
  · clear hb
    go_enter Try.func4, Try.ntmps4
    go_wp2_with fail
    refine (awake_any _).mono ?_
    rintro r w1 ⟨rfl, b1⟩
    have HB := Aside0.mk b1
    clear b1
    go_wp2_with fail
    go_ret
    exact ⟨rfl, HB.out⟩
  · obtain ⟨s, hs⟩ : ∃ s, s = (getU xs).1 := ⟨_, rfl⟩
    obtain ⟨e, he⟩ : ∃ e, e = (getU xs).2 := ⟨_, rfl⟩
    by_cases he0 : e = 0
    · have HPT := Aside0.mk (show putU s.g s.b s.l s.p s.q s.o = (xs, 0) by rw [hs]; exact (putU_get xs hb (by rw [← he, he0])).1)
      subst he0
      have HG := Aside0.mk (show getU xs = (s, 0) from Prod.ext hs.symm he.symm)
      clear hb hs he
      go_enter Try.func4, Try.ntmps4
      go_wp2_with fail
      have hg := sget_any (w := w) A c xs HC.out HBY.out HCC.out (by rw [HN.out]; omega)
      rw [HG.out, HN.out] at hg
      refine hg.mono ?_
      clear hg
      rintro r w1 ⟨rfl, b1⟩
      have HB := Aside0.mk b1
      clear b1
      go_wp2_with fail
      obtain ⟨w2, hw2⟩ : ∃ w2, w2 = w1.alloc (.cells (sixU s.g s.b s.l s.p s.q s.o) 25) := ⟨_, rfl⟩
      have b2 : Below w1.heap.size w1 w2 := by rw [hw2]; exact (Below.refl _ _).alloc (Nat.le_refl _) _
      have HS := Aside0.mk (show Sup w2 w1.heap.size s by rw [hw2]; exact heap_alloc_new w1 _)
      obtain ⟨us, hus⟩ : ∃ us, us = w1.heap.size := ⟨_, rfl⟩
      rw [← hw2, ← hus]
      rw [← hus] at HS
      replace HB := Aside0.mk (HB.out.trans (b2.mono HB.out.size))
      clear hw2 b2 hus
      have hg := xsget_any (w := w2) A c xs (Kd.C_below HC.out HB.out) HBY.out HCC.out (by rw [HN.out]; omega)
      rw [HG.out, HN.out] at hg
      refine hg.mono ?_
      clear hg
      rintro r w3 ⟨rfl, b3⟩
      replace HS := Aside0.mk (HS.out.step b3)
      replace HB := Aside0.mk (HB.out.trans (b3.mono HB.out.size))
      clear b3
      have hs3 : ∀ x, Sup (w3.alloc x) us s := fun x => HS.out.step ((Below.refl _ _).alloc (Nat.le_refl _) _)
      have a0 : ∀ x, (w3.alloc x).cell? ⟨us, 0, none⟩ = some (.int .i64 s.g) := fun x => (cells6 (hs3 x)).1.1
      have a1 : ∀ x, (w3.alloc x).cell? ⟨us, 1, none⟩ = some (.int .i64 s.b) := fun x => (cells6 (hs3 x)).1.2.1
      have a2 : ∀ x, (w3.alloc x).cell? ⟨us, 2, none⟩ = some (.int .i64 s.l) := fun x => (cells6 (hs3 x)).1.2.2.1
      have a3 : ∀ x, (w3.alloc x).cell? ⟨us, 3, none⟩ = some (.int .i64 s.p) := fun x => (cells6 (hs3 x)).1.2.2.2.1
      have a4 : ∀ x, (w3.alloc x).cell? ⟨us, 4, none⟩ = some (.int .i64 s.q) := fun x => (cells6 (hs3 x)).1.2.2.2.2.1
      have a5 : ∀ x, (w3.alloc x).cell? ⟨us, 5, none⟩ = some (.int .i64 s.o) := fun x => (cells6 (hs3 x)).1.2.2.2.2.2
      clear hs3
      go_wp2_with fail
      clear a0 a1 a2 a3 a4 a5
      obtain ⟨w4, hw4⟩ : ∃ w4, w4 = w3.alloc (.cells (sixU s.g s.b s.l s.p s.q s.o) 25) := ⟨_, rfl⟩
      have b4 : Below w3.heap.size w3 w4 := by rw [hw4]; exact (Below.refl _ _).alloc (Nat.le_refl _) _
      have HT := Aside0.mk (show Sup w4 w3.heap.size s by rw [hw4]; exact heap_alloc_new w3 _)
      obtain ⟨ut, hut⟩ : ∃ ut, ut = w3.heap.size := ⟨_, rfl⟩
      rw [← hw4, ← hut]
      rw [← hut] at HT
      replace HS := Aside0.mk (HS.out.step b4)
      replace HB := Aside0.mk (HB.out.trans (b4.mono HB.out.size))
      clear hw4 b4 hut
      have h1 := sput_any (w := w4) s.g s.b s.l s.p s.q s.o
      rw [HPT.out, HN.out] at h1
      refine h1.mono ?_
      clear h1
      rintro r w5 ⟨A5, c5, rfl, hc5, hC5, b5⟩
      have HC5 := Aside0.mk (hC5 w5 (Below.refl _ _))
      replace HS := Aside0.mk (HS.out.step b5)
      replace HT := Aside0.mk (HT.out.step b5)
      replace HB := Aside0.mk (HB.out.trans (b5.mono HB.out.size))
      clear b5 hC5 hc5
      obtain ⟨⟨a0, a1, a2, a3, a4, a5⟩, _⟩ := cells6 HS.out
      obtain ⟨⟨d0, d1, d2, d3, d4, d5⟩, _⟩ := cells6 HT.out
      have hes := eq_self s
      obtain ⟨T, hT⟩ : ∃ T, T = strOfNums xs := ⟨_, rfl⟩
      have hcv1 : (convert 26 9 (.slice A5 n c5)).run Try.prog w5 = .ok (.string T) w5 := by rw [hT]; exact strC HC5.out
      have hcv2 : (convert 26 9 (.slice A n c)).run Try.prog w5 = .ok (.string T) w5 := by rw [hT]; have := Kd.C_below HC.out HB.out; rw [HN.out] at this; exact strC this
      clear hT
      go_wp2_with fail
      refine (awake_any _).mono ?_
      rintro r w6 ⟨rfl, b6⟩
      replace HB := Aside0.mk (HB.out.trans (b6.mono HB.out.size))
      clear b6
      go_wp2_with fail
      go_ret
      exact ⟨rfl, HB.out⟩
    · have HG := Aside0.mk (show getU xs = (s, e) from Prod.ext hs.symm he.symm)
      clear hb hs he
      go_enter Try.func4, Try.ntmps4
      go_wp2_with fail
      have hg := sget_any (w := w) A c xs HC.out HBY.out HCC.out (by rw [HN.out]; omega)
      rw [HG.out, HN.out] at hg
      refine hg.mono ?_
      clear hg
      rintro r w1 ⟨rfl, b1⟩
      have HB := Aside0.mk b1
      clear b1
      go_wp2_with fail
      obtain ⟨w2, hw2⟩ : ∃ w2, w2 = w1.alloc (.cells (sixU s.g s.b s.l s.p s.q s.o) 25) := ⟨_, rfl⟩
      have b2 : Below w1.heap.size w1 w2 := by rw [hw2]; exact (Below.refl _ _).alloc (Nat.le_refl _) _
      have HS := Aside0.mk (show Sup w2 w1.heap.size s by rw [hw2]; exact heap_alloc_new w1 _)
      obtain ⟨us, hus⟩ : ∃ us, us = w1.heap.size := ⟨_, rfl⟩
      rw [← hw2, ← hus]
      rw [← hus] at HS
      replace HB := Aside0.mk (HB.out.trans (b2.mono HB.out.size))
      clear hw2 b2 hus
      have hg := xsget_any (w := w2) A c xs (Kd.C_below HC.out HB.out) HBY.out HCC.out (by rw [HN.out]; omega)
      rw [HG.out, HN.out] at hg
      refine hg.mono ?_
      clear hg
      rintro r w3 ⟨rfl, b3⟩
      replace HS := Aside0.mk (HS.out.step b3)
      replace HB := Aside0.mk (HB.out.trans (b3.mono HB.out.size))
      clear b3
      have hs3 : ∀ x, Sup (w3.alloc x) us s := fun x => HS.out.step ((Below.refl _ _).alloc (Nat.le_refl _) _)
      have a0 : ∀ x, (w3.alloc x).cell? ⟨us, 0, none⟩ = some (.int .i64 s.g) := fun x => (cells6 (hs3 x)).1.1
      have a1 : ∀ x, (w3.alloc x).cell? ⟨us, 1, none⟩ = some (.int .i64 s.b) := fun x => (cells6 (hs3 x)).1.2.1
      have a2 : ∀ x, (w3.alloc x).cell? ⟨us, 2, none⟩ = some (.int .i64 s.l) := fun x => (cells6 (hs3 x)).1.2.2.1
      have a3 : ∀ x, (w3.alloc x).cell? ⟨us, 3, none⟩ = some (.int .i64 s.p) := fun x => (cells6 (hs3 x)).1.2.2.2.1
      have a4 : ∀ x, (w3.alloc x).cell? ⟨us, 4, none⟩ = some (.int .i64 s.q) := fun x => (cells6 (hs3 x)).1.2.2.2.2.1
      have a5 : ∀ x, (w3.alloc x).cell? ⟨us, 5, none⟩ = some (.int .i64 s.o) := fun x => (cells6 (hs3 x)).1.2.2.2.2.2
      clear hs3
      go_wp2_with fail
      clear a0 a1 a2 a3 a4 a5
      obtain ⟨w4, hw4⟩ : ∃ w4, w4 = w3.alloc (.cells (sixU s.g s.b s.l s.p s.q s.o) 25) := ⟨_, rfl⟩
      have b4 : Below w3.heap.size w3 w4 := by rw [hw4]; exact (Below.refl _ _).alloc (Nat.le_refl _) _
      have HT := Aside0.mk (show Sup w4 w3.heap.size s by rw [hw4]; exact heap_alloc_new w3 _)
      obtain ⟨ut, hut⟩ : ∃ ut, ut = w3.heap.size := ⟨_, rfl⟩
      rw [← hw4, ← hut]
      rw [← hut] at HT
      replace HS := Aside0.mk (HS.out.step b4)
      replace HB := Aside0.mk (HB.out.trans (b4.mono HB.out.size))
      clear hw4 b4 hut
      have h1 := sput_any (w := w4) s.g s.b s.l s.p s.q s.o
      obtain ⟨P, hP⟩ : ∃ P, P = putU s.g s.b s.l s.p s.q s.o := ⟨_, rfl⟩
      obtain ⟨pl, hpl⟩ : ∃ pl, pl = P.1.length := ⟨_, rfl⟩
      obtain ⟨pe, hpe⟩ : ∃ pe, pe = P.2 := ⟨_, rfl⟩
      rw [← hP, ← hpl, ← hpe] at h1
      clear hP hpl hpe
      refine h1.mono ?_
      clear h1
      rintro r w5 ⟨A5, c5, rfl, hc5, hC5, b5⟩
      have HC5 := Aside0.mk (hC5 w5 (Below.refl _ _))
      replace HS := Aside0.mk (HS.out.step b5)
      replace HT := Aside0.mk (HT.out.step b5)
      replace HB := Aside0.mk (HB.out.trans (b5.mono HB.out.size))
      clear b5 hC5 hc5
      obtain ⟨⟨a0, a1, a2, a3, a4, a5⟩, _⟩ := cells6 HS.out
      obtain ⟨⟨d0, d1, d2, d3, d4, d5⟩, _⟩ := cells6 HT.out
      have hes := eq_self s
      have heb : (e != 0) = true := by simpa using he0
      have hee : (e == e) = true := by simp
      go_wp2_with fail
      refine (awake_any _).mono ?_
      rintro r w6 ⟨rfl, b6⟩
      replace HB := Aside0.mk (HB.out.trans (b6.mono HB.out.size))
      clear b6
      go_wp2_with fail
      go_ret
      exact ⟨rfl, HB.out⟩
end Supr
end Go.Proofs.Ytopfjmeejpamjaa
end
section
namespace Go.Proofs.Ytopfjmeejpamjaa
set_option linter.unusedVariables false
set_option linter.unusedSimpArgs false
open Go.RowKit Go.Proofs.YtopfjmeejpamjaaW.PrintWords
namespace Op
open Go.ChangeShapes Go.WideShapes
def in8 (x : Int) : Prop := 0 ≤ x ∧ x ≤ 255
theorem wf_u8 {x : Int} (h : (Lit.int .u8 x).wf = true) : in8 x := by
  simp only [Lit.wf, Bool.and_eq_true, decide_eq_true_eq] at h
  have h1 : IntKind.min .u8 = 0 := by decide
  have h2 : IntKind.max .u8 = 255 := by decide
  rw [h1, h2] at h
  exact h
theorem cells_u8 : Try.prog.cellsOf 5 = 1 := by kernel_rfl
section
variable {H : Type} {enc : TypeId × Value → H} {P : Program} {w : World} {base : Nat} {spare : Nat → Bool} {held : Bool}
theorem open_u8 {t : TypeId} (ht : P.underlying t = some (.int .u8)) {fuel : Nat} {cs : List Value} {y : DataW H × List MemPlace} (h : DataW.trod enc P w base spare held fuel t cs = some y) :
    ∃ x, (Kd.int .u8).K w x cs ∧ in8 x := by
  obtain ⟨x, e, _, hw⟩ := DataW.trod_int ht h
  exact ⟨x, e, wf_u8 hw⟩
theorem open_bytes {A : Option Addr} {n c : Nat} {d : DataW H} {p : List MemPlace} (h : DataW.Trod enc Try.prog w base spare held 26 (.slice A n c) d p) :
    ∃ ys : List Int, n = ys.length ∧ ys.length ≤ c ∧ Kd.C (Kd.int .u8) w A ys.length ys ∧ ∀ y ∈ ys, in8 y := by
  obtain ⟨fuel, hf⟩ := h
  obtain ⟨A', c', ys, e, h1, h2, h3, _⟩ := open_rows (Kd.int .u8) in8 Try.underlying26 (by rw [cells_u8]; rfl) (fun fuel cs y h => open_u8 Try.underlying5 h) hf
  simp [Value.cells] at e
  obtain ⟨rfl, rfl, rfl⟩ := e
  exact ⟨ys, rfl, h1, h2, h3⟩
end
end Op
end Go.Proofs.Ytopfjmeejpamjaa
end
