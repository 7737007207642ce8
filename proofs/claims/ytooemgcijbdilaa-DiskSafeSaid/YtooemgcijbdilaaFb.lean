/- What is safe stays. -/
import Derived.Test.YtooemgcijbdilaaFa
import Derived.Test.YtooemgcijbdilaaH8
import Derived.Below
import Derived.Lib.Hide
import Derived.OwnWalk
import Derived.WalkKit
import Derived.KernelRfl
import Derived.RowKit3
import Derived.Deep.LoopGhost
import Derived.Deep.QuietTactic
import Derived.BigQuiet
import Derived.WideLaws
import Derived.Great.BuildSlice
import Derived.Outline
import Derived.Deep.DeepCutAuto
import Derived.WalkSpells
import Derived.RegionTactic
import Derived.BigRegion
import Derived.WalkLawsBesides
namespace Go.Proofs.Ytooemgcijbdilaa
set_option linter.unusedVariables false
set_option linter.unusedSimpArgs false
open Go.RowKit Go.Proofs.YtooemgcijbdilaaW.PrintWords Go.Proofs.YtooemgcijbdilaaW.PrintLast Go.Proofs.YtooemgcijbdilaaW.PrintMore
namespace Disk
open Go.Disk PDiskDoes

theorem getD_set_ne' {l : List (List Int)} {i n : Nat} (h : i ≠ n) (c : List Int) : (l.set i c).getD n [] = l.getD n [] := by
  rw [List.getD_eq_getElem?_getD, List.getD_eq_getElem?_getD, List.getElem?_set_ne h]
theorem flushTo_keep (n : Nat) : ∀ (ws : List (Int × List Int)) (s : List (List Int)), (∀ p ∈ ws, p.1.toNat ≠ n) → (flushTo s ws).getD n [] = s.getD n []
  | [], s, _ => rfl
  | p :: ws, s, h => by
    show (flushTo (s.set p.1.toNat p.2) ws).getD n [] = _
    rw [flushTo_keep n ws _ (fun q hq => h q (List.mem_cons_of_mem _ hq)), getD_set_ne' (h p List.mem_cons_self)]
theorem crashTo_keep (n : Nat) : ∀ (ws : List (Int × List Int)) (ms : List Int) (D : Dk), (∀ p ∈ ws, p.1.toNat ≠ n) → (crashTo D ws ms).safe.getD n [] = D.safe.getD n []
  | [], ms, D, _ => by cases ms <;> rfl
  | p :: ws, [], D, _ => rfl
  | p :: ws, m :: ms, D, h => by
    show (crashTo (tearD D p.1.toNat p.2 m) ws ms).safe.getD n [] = _
    rw [crashTo_keep n ws ms _ (fun q hq => h q (List.mem_cons_of_mem _ hq))]
    show (D.safe.set p.1.toNat _).getD n [] = _
    rw [getD_set_ne' (h p List.mem_cons_self)]
/-- A block's safe bytes, and nothing that waits for it. -/
structure Sf (n : Nat) (s : List Int) (D : Dk) : Prop where
  safe : D.safe.getD n [] = s
  waits : ∀ p ∈ D.waits, p.1.toNat ≠ n
theorem deed_safe (D : Dk) : (deedD D).safe = D.safe := by unfold deedD; split <;> rfl
theorem Sf.deed {n : Nat} {s : List Int} {D : Dk} (h : Sf n s D) : Sf n s (deedD D) := ⟨by rw [deed_safe]; exact h.safe, by rw [waits_deed]; exact h.waits⟩
theorem Sf.flush {n : Nat} {s : List Int} {D : Dk} (h : Sf n s D) : Sf n s (flushD D) := by
  refine ⟨?_, fun p hp => by cases hp⟩
  show (flushTo D.safe (D.waits.take D.waits.length)).getD n [] = s
  rw [List.take_length, flushTo_keep n _ _ h.waits]
  exact h.safe
theorem Sf.crash {n : Nat} {s : List Int} {D : Dk} (h : Sf n s D) (ms : List Int) : Sf n s (crashD D ms) :=
  ⟨by show (crashTo D D.waits ms).safe.getD n [] = s; rw [crashTo_keep n _ _ _ h.waits]; exact h.safe, fun p hp => by cases hp⟩
theorem Sf.do_ {n : Nat} {s : List Int} {D : Dk} (h : Sf n s D) (K N : Int) (bs : List Int) (odd : Bool) (ms : List Int) (hn : ¬ (K = 2 ∧ N = n)) : Sf n s (doD D K N bs odd ms) := by
  unfold doD
  split
  · split
    · exact ⟨h.safe, h.waits⟩
    · exact h
  split
  · rename_i h2
    unfold writeD
    split
    · exact h
    split
    · exact h
    rename_i hr _
    have hw : Sf n s (deedD (waitD D N (dat odd bs))) := by
      refine Sf.deed ⟨h.safe, fun p hp => ?_⟩
      rcases List.mem_append.1 hp with h1 | h1
      · exact h.waits p h1
      · simp at h1
        subst h1
        have : 0 ≤ N := by
          have hr0 : ready D N = 0 := by omega
          exact (ready_in hr0).2.1
        show N.toNat ≠ n
        omega
    split
    · exact hw
    · exact ⟨hw.safe, hw.waits⟩
  split
  · unfold flushF
    split
    · exact h
    split
    · exact h.deed
    · exact h.deed.flush
  split
  · split
    · exact h
    · exact ⟨h.safe, h.waits⟩
  split
  · exact h.crash ms
  · exact h
theorem tear_len (D : Dk) (n : Nat) (bs : List Int) (m : Int) : (tearD D n bs m).safe.length = D.safe.length := List.length_set ..
theorem do_len (D : Dk) (K N : Int) (bs : List Int) (odd : Bool) (ms : List Int) : (doD D K N bs odd ms).safe.length = D.safe.length := by
  unfold doD
  split
  · split <;> rfl
  split
  · unfold writeD
    split
    · rfl
    split
    · rfl
    split
    · show (deedD _).safe.length = _
      rw [deed_safe]
      rfl
    · show (deedD _).safe.length = _
      rw [deed_safe]
      rfl
  split
  · unfold flushF
    split
    · rfl
    split
    · rw [deed_safe]
    · show (flushTo _ _).length = _
      rw [flushTo_len, deed_safe]
  split
  · split <;> rfl
  split
  · exact (crashTo_safe _ _ _).1
  · rfl
theorem all_len (D : Dk) (ys : List S45) : (doAll D ys).safe.length = D.safe.length := by
  induction ys generalizing D with
  | nil => rfl
  | cons y ys ih =>
    show (doAll (stepD D y) ys).safe.length = _
    rw [ih]
    exact do_len _ _ _ _ _ _
/-- What a flush that was answered OK leaves. -/
theorem flush_ok {D : Dk} (hr : flushR D = 0) : (flushF D).waits = [] ∧ (flushF D).off = false := by
  unfold flushR at hr
  unfold flushF
  by_cases h0 : ready D 0 ≠ 0
  · rw [if_pos h0] at hr
    exact absurd hr h0
  · rw [if_neg h0] at hr ⊢
    by_cases hl : D.left = 0
    · rw [if_pos hl] at hr
      cases hr
    · rw [if_neg hl]
      refine ⟨rfl, ?_⟩
      show (deedD D).off = false
      unfold deedD
      rw [if_neg hl]
      exact (ready_in (D := D) (N := 0) (by omega)).1
theorem flushF_len (D : Dk) : (flushF D).safe.length = D.safe.length := by
  have := do_len D 3 0 [] false []
  unfold doD at this
  simpa using this
theorem now_none {D : Dk} (h : D.waits = []) (n : Int) : nowD D n = D.safe.getD n.toNat [] := by
  unfold nowD
  rw [h]
  rfl
theorem ready_ok {D : Dk} (ho : D.off = false) (n : Int) (h0 : 0 ≤ n) (h1 : n < D.safe.length) : ready D n = 0 := by
  unfold ready
  rw [ho]
  simp
  omega
/-- The deeds behind the flush: those that write the block are left out. -/
def skip (n : Int) (y : S45) : Bool := y.f0 == 2 && y.f1 == n
def calmD (n : Int) (D : Dk) (y : S45) : Dk := if skip n y = true then D else stepD D y
def calmAll (n : Int) (D : Dk) (ys : List S45) : Dk := ys.foldl (calmD n) D
theorem calm_succ (n : Int) (D : Dk) (ys : List S45) (i : Nat) (hi : i < ys.length) : calmAll n D (ys.take (i + 1)) = calmD n (calmAll n D (ys.take i)) (rd_T45 ys (i : Int)) := by
  have : rd_T45 ys (i : Int) = ys[i] := by
    unfold rd_T45
    rw [Int.toNat_natCast, List.getD_eq_getElem?_getD, List.getElem?_eq_getElem hi]
    rfl
  rw [this, List.take_succ_eq_append_getElem hi]
  unfold calmAll
  rw [List.foldl_append, List.foldl_cons, List.foldl_nil]
theorem Sf.calm {n : Int} (hn : 0 ≤ n) {s : List Int} : ∀ (ys : List S45) {D : Dk}, Sf n.toNat s D → Sf n.toNat s (calmAll n D ys)
  | [], _, h => h
  | y :: ys, D, h => by
    show Sf n.toNat s (calmAll n (calmD n D y) ys)
    refine Sf.calm hn ys ?_
    unfold calmD
    split
    · exact h
    · rename_i hs
      refine h.do_ _ _ _ _ _ (fun ⟨h1, h2⟩ => hs ?_)
      unfold skip
      rw [h1, h2]
      simp
      omega
theorem calm_len (n : Int) : ∀ (ys : List S45) (D : Dk), (calmAll n D ys).safe.length = D.safe.length
  | [], _ => rfl
  | y :: ys, D => by
    show (calmAll n (calmD n D y) ys).safe.length = _
    rw [calm_len n ys]
    unfold calmD
    split
    · rfl
    · exact do_len _ _ _ _ _ _
theorem calm_waits (n : Int) : ∀ (ys : List S45) (D : Dk), (calmAll n D ys).waits.length ≤ D.waits.length + ys.length
  | [], _ => Nat.le_refl _
  | y :: ys, D => by
    have h1 := calm_waits n ys (calmD n D y)
    have h2 : (calmD n D y).waits.length ≤ D.waits.length + 1 := by
      unfold calmD
      split
      · exact Nat.le_succ _
      · exact waits_do _ _ _ _ _ _
    show (calmAll n (calmD n D y) ys).waits.length ≤ _
    rw [List.length_cons]
    omega
theorem crash_len (D : Dk) (ms : List Int) : (crashD D ms).safe.length = D.safe.length := (crashTo_safe _ _ _).1
/-- The law: what is read behind the flush is read behind the crash. -/
theorem safe_law {D : Dk} (hr : flushR D = 0) (n : Int) (h0 : 0 ≤ n) (h1 : n < D.safe.length) (ys : List S45) (ms : List Int) :
    ready (flushF D) n = 0 ∧ ready (crashD (calmAll n (readF (flushF D) n) ys) ms) n = 0 ∧ nowD (crashD (calmAll n (readF (flushF D) n) ys) ms) n = nowD (flushF D) n := by
  obtain ⟨hw, ho⟩ := flush_ok hr
  have hl := flushF_len D
  have hr2 : ready (flushF D) n = 0 := ready_ok ho n h0 (by omega)
  have hrf : readF (flushF D) n = readD (flushF D) := by unfold readF; rw [if_pos hr2]
  have hsf : Sf n.toNat ((flushF D).safe.getD n.toNat []) (readF (flushF D) n) := by
    rw [hrf]
    exact ⟨rfl, fun p hp => by rw [show (readD (flushF D)).waits = (flushF D).waits from rfl, hw] at hp; cases hp⟩
  have hc := (Sf.calm h0 ys hsf).crash ms
  refine ⟨hr2, ready_ok rfl n h0 ?_, ?_⟩
  · rw [crash_len, calm_len, hrf]
    show n < (flushF D).safe.length
    omega
  · rw [now_none rfl, now_none hw, hc.safe]
end Disk
end Go.Proofs.Ytooemgcijbdilaa
