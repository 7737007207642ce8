/- Sets of bits: contracts, sixth part. -/
import Derived.Test.YtbcifbogmjfpoaaBr
import Derived.Test.YtbcifbogmjfpoaaPBitsDoesx
import Derived.Below
import Derived.Test.YtbcifbogmjfpoaaReg
import Derived.Deep.MidRow
import Derived.Deep.WholeRow
import Derived.Great.BuildSlice
import Derived.Lib.Hide
import Derived.OwnWalk
import Derived.WalkKit
import Derived.KernelRfl
import Derived.RowKit3
import Derived.Deep.LoopGhost
import Derived.Deep.QuietTactic
import Derived.BigQuiet
import Derived.WideLaws
import Derived.Outline
import Derived.Deep.DeepCutAuto
import Derived.Deep.CutBlock
import Derived.WalkSpells
import Derived.RegionTactic
import Derived.BigRegion
import Derived.WalkLawsBesides
namespace Go.Proofs.Ytbcifbogmjfpoaa
set_option linter.unusedVariables false
set_option linter.unusedSimpArgs false
open Go.RowKit Go.Proofs.YtbcifbogmjfpoaaW.PrintWords Go.Proofs.YtbcifbogmjfpoaaW.PrintLast Go.Proofs.YtbcifbogmjfpoaaW.PrintMore
namespace Bits
open Go.Bits
open PBitsDoes
def L0 : List Bool := List.replicate 100 false
def L1 : List Bool := L0.set 3 true
def L2 : List Bool := L1.set 70 true
def LT : List Bool := L2.set 70 false
theorem e1 : addL L0 3 = (L1, 0) := by kernel_rfl
theorem e2 : addL L1 70 = (L2, 0) := by kernel_rfl
theorem e3 : addL L2 3 = (L2, 7) := by kernel_rfl
theorem e4 : dropL L2 4 = (L2, 6) := by kernel_rfl
theorem e5 : dropL L2 70 = (LT, 0) := by kernel_rfl
theorem skip2 : ∀ j, j < 66 → L2.getD (4 + j) false ≠ true := by decide
theorem e6 : firstL L2 4 true = 70 := by
  unfold firstL
  rw [show (4 : Int).toNat = 4 from rfl, first_skip 66 (fun j hj _ => skip2 j hj), first_hit (by decide) (by decide)]
  rfl
theorem skip1 : ∀ j, j < 1 → L2.getD (3 + j) false ≠ false := by decide
theorem e7 : firstL L2 3 false = 4 := by
  unfold firstL
  rw [show (3 : Int).toNat = 3 from rfl, first_skip 1 (fun j hj _ => skip1 j hj), first_hit (by decide) (by decide)]
  rfl
theorem skip0 : ∀ j, j < 3 → L2.getD (0 + j) false ≠ true := by decide
theorem skip3 : ∀ j, j < 29 → L2.getD (71 + j) false ≠ true := by decide
theorem e8 : listL L2 = [3, 70] := by
  unfold listL
  rw [list_skip 3 (fun j hj _ => skip0 j hj), list_hit (by decide) (by decide), list_skip (i := 0 + 3 + 1) 66 (fun j hj _ => skip2 j hj), list_hit (i := 0 + 3 + 1 + 66) (by decide) (by decide), list_skip (i := 0 + 3 + 1 + 66 + 1) 29 (fun j hj _ => skip3 j hj), list_end (by decide)]
  rfl
theorem skipT0 : ∀ j, j < 3 → LT.getD (0 + j) false ≠ true := by decide
theorem skipT4 : ∀ j, j < 96 → LT.getD (4 + j) false ≠ true := by decide
theorem e9 : listL LT = [3] := by
  unfold listL
  rw [list_skip 3 (fun j hj _ => skipT0 j hj), list_hit (by decide) (by decide), list_skip (i := 0 + 3 + 1) 96 (fun j hj _ => skipT4 j hj), list_end (by decide)]
  rfl
theorem e10 : firstL LT 4 true = -1 := by
  unfold firstL
  rw [show (4 : Int).toNat = 4 from rfl, first_skip 96 (fun j hj _ => skipT4 j hj), first_end (by decide)]
theorem e11 : hasL L2 70 = true := by kernel_rfl
theorem e12 : hasL LT 70 = false := by kernel_rfl
theorem e13 : addL L2 100 = (L2, 10) := by kernel_rfl
theorem says_empty (n : Nat) (h : n ≤ 4096) : Says (List.replicate 64 0) (List.replicate n false) := by
  refine ⟨by simp, fun x hx => ?_, by simpa using h, fun i hi => ?_⟩
  · rw [List.mem_replicate] at hx; omega
  · unfold mem
    have h1 : (List.replicate 64 0).getD (i / 64) 0 = 0 := by
      rw [List.getD_eq_getElem?_getD, List.getElem?_replicate]; split <;> rfl
    have h2 : (List.replicate n false).getD i false = false := by
      rw [List.getD_eq_getElem?_getD, List.getElem?_replicate]; split <;> rfl
    rw [h1, h2]; simp
theorem of_at (n : Nat) (w : World) (h : n ≤ 4096) :
    Calls Try.prog 22 #[.int .i64 n] w fun e w' => e = .returned (.tuple #[.pointer (some ⟨w.heap.size, 0, none⟩), .int .i64 0]) ∧ At w' w.heap.size (List.replicate n false) ∧ Below w.heap.size w w' := by
  refine (of_yes n w h).mono ?_
  rintro e w' ⟨rfl, rfl⟩
  refine ⟨rfl, ⟨List.replicate 64 0, ?_, says_empty n h⟩, (Below.refl _ _).alloc (Nat.le_refl _) _⟩
  rw [List.length_replicate]
  exact heap_alloc_new w _
theorem add_eq {b : Nat} {l l' : List Bool} {i r : Int} (he : addL l i = (l', r)) (w : World) (h : At w b l) :
    Calls Try.prog 25 #[.pointer (some ⟨b, 0, none⟩), .int .i64 i] w fun e w' => e = .returned (.int .i64 r) ∧ At w' b l' ∧ w.grownBy w' (some b) := by
  have := add_any b l i w h
  rw [he] at this
  exact this
theorem drop_eq {b : Nat} {l l' : List Bool} {i r : Int} (he : dropL l i = (l', r)) (w : World) (h : At w b l) :
    Calls Try.prog 27 #[.pointer (some ⟨b, 0, none⟩), .int .i64 i] w fun e w' => e = .returned (.int .i64 r) ∧ At w' b l' ∧ w.grownBy w' (some b) := by
  have := drop_any b l i w h
  rw [he] at this
  exact this
theorem At.other {w w' : World} {b c : Nat} {l : List Bool} (h : At w b l) (hg : w.grownBy w' (some c)) (hne : b ≠ c) : At w' b l :=
  h.keep (hg.block b h.lt (by simpa using hne))
theorem mine {B : Nat} {w0 w w' : World} {b : Nat} {l : List Bool} (hB : Below B w0 w) (h : At w b l) (hb : B ≤ b) (hg : w.grownBy w' (some b)) : Below B w0 w' :=
  hB.grown hg (Nat.le_of_lt (Nat.lt_of_le_of_lt hb h.lt)) (fun k hk => by cases hk; exact hb)
theorem ints_eq (A0 A1 : Option Addr) (c0 c1 n m : Nat) (l : List Int) (w : World) (hn : n = l.length) (hm : m = l.length) (hl : l.length ≤ 4096) (h0 : Kd.C (Kd.int .i64) w A0 l.length l) (hc0 : l.length ≤ c0) (h1 : Kd.C (Kd.int .i64) w A1 l.length l) (hc1 : l.length ≤ c1) :
    Calls Try.prog 36 #[.slice A0 n c0, .slice A1 m c1] w fun e w' => e = .returned (.bool true) ∧ Drawn0 w w' := by
  subst hn hm
  exact chantryref01_Ints.calls 5000 A0 c0 l A1 c1 l true w h0 hc0 h1 hc1 (ints_same l hl)
theorem lit2 (w : World) (x y : Int) (t : Nat) : Kd.C (Kd.int .i64) (w.alloc (.cells #[.int .i64 x, .int .i64 y] t)) (some ⟨w.heap.size, 0, none⟩) 2 [x, y] := by
  have hb := heap_alloc_new w (.cells #[.int .i64 x, .int .i64 y] t)
  refine Kd.C_of_reads (enc := fun x => Value.int .i64 x) (d := (0:Int)) (h1 := fun _ => rfl) ⟨rfl, by omega, fun _ => ⟨_, rfl, fun j hj => ?_⟩⟩
  have hadd : (⟨w.heap.size, 0, none⟩ : Addr).add j = ⟨w.heap.size, j, none⟩ := by unfold Addr.add; split <;> simp_all
  rw [hadd, cell_blk hb]
  match j, hj with
  | 0, _ => rfl
  | 1, _ => rfl
set_option maxHeartbeats 1000000 in
theorem awake_any (w : World) : Calls Try.prog 24 #[] w fun e w' => e = .returned (.bool true) ∧ Below w.heap.size w w' := by
  go_enter Try.func24, Try.ntmps24
  go_wp2_with fail
  refine (of_at 100 _ (by omega)).mono ?_
  rintro e w1 ⟨rfl, a1, b1⟩
  obtain ⟨b, hb⟩ : ∃ b, b = w.heap.size := ⟨_, rfl⟩
  rw [← hb] at a1
  have HA := Lib.hid (show At w1 b L0 from a1)
  have HB := Lib.hid b1
  have HBE := Lib.hid (show w.heap.size ≤ b by omega)
  rw [← hb]
  clear a1 b1 hb
  go_wp2_with fail
  refine (of_no 4097 _ (.inr (by omega))).mono ?_
  rintro e w' ⟨rfl, rfl⟩
  go_wp2_with fail
  refine (add_eq e1 _ HA.out).mono ?_
  rintro e w2 ⟨rfl, a, g⟩
  replace HB := Lib.hid (mine HB.out HA.out HBE.out g)
  replace HA := Lib.hid a
  clear a g
  go_wp2_with fail
  refine (add_eq e2 _ HA.out).mono ?_
  rintro e w3 ⟨rfl, a, g⟩
  replace HB := Lib.hid (mine HB.out HA.out HBE.out g)
  replace HA := Lib.hid a
  clear a g
  go_wp2_with fail
  refine (add_eq e3 _ HA.out).mono ?_
  rintro e w4 ⟨rfl, a, g⟩
  replace HB := Lib.hid (mine HB.out HA.out HBE.out g)
  replace HA := Lib.hid a
  clear a g
  go_wp2_with fail
  refine (drop_eq e4 _ HA.out).mono ?_
  rintro e w5 ⟨rfl, a, g⟩
  replace HB := Lib.hid (mine HB.out HA.out HBE.out g)
  replace HA := Lib.hid a
  clear a g
  go_wp2_with fail
  refine (clone_any b L2 _ HA.out).mono ?_
  rintro e w6 ⟨rfl, a, g⟩
  have HT := Lib.hid a
  obtain ⟨t, ht⟩ : ∃ t, t = w5.heap.size := ⟨_, rfl⟩
  rw [← ht] at HT ⊢
  have HNE := Lib.hid (show b ≠ t by have := HA.out.lt; omega)
  have HTE := Lib.hid (show w.heap.size ≤ t by have := HB.out.size; omega)
  replace HB := Lib.hid (HB.out.trans (g.mono HB.out.size))
  replace HA := Lib.hid (HA.out.below g)
  clear a g ht
  go_wp2_with fail
  refine (drop_eq e5 _ HT.out).mono ?_
  rintro e w7 ⟨rfl, a, g⟩
  replace HB := Lib.hid (mine HB.out HT.out HTE.out g)
  replace HA := Lib.hid (HA.out.other g HNE.out)
  replace HT := Lib.hid a
  clear a g
  go_wp2_with fail
  refine (next_any b L2 4 _ HA.out).mono ?_
  rw [e6]
  rintro e w' ⟨rfl, rfl⟩
  go_wp2_with fail
  refine (gap_any b L2 3 _ HA.out).mono ?_
  rw [e7]
  rintro e w' ⟨rfl, rfl⟩
  go_wp2_with fail
  refine (count_any b L2 _ HA.out).mono ?_
  rw [e8]
  rintro e w' ⟨rfl, rfl⟩
  go_wp2_with fail
  refine (count_any t LT _ HT.out).mono ?_
  rw [e9]
  rintro e w' ⟨rfl, rfl⟩
  go_wp2_with fail
  refine (has_any b L2 70 _ HA.out).mono ?_
  rw [e11]
  rintro e w' ⟨rfl, rfl⟩
  go_wp2_with fail
  refine (has_any t LT 70 _ HT.out).mono ?_
  rw [e12]
  rintro e w' ⟨rfl, rfl⟩
  go_wp2_with fail
  refine (next_any t LT 4 _ HT.out).mono ?_
  rw [e10]
  rintro e w' ⟨rfl, rfl⟩
  go_wp2_with fail
  refine (add_eq e13 _ HA.out).mono ?_
  rintro e w8 ⟨rfl, a, g⟩
  replace HB := Lib.hid (mine HB.out HA.out HBE.out g)
  replace HA := Lib.hid a
  clear a g
  go_wp2_with fail
  refine (list_any b L2 _ HA.out (by decide)).mono ?_
  rintro e w9 ⟨v, rfl, hr, g⟩
  rw [e8] at hr
  have HR := Lib.hid hr
  replace HB := Lib.hid (HB.out.trans (g.mono HB.out.size))
  clear g hr
  go_wp2_with fail
  obtain ⟨A, c, rfl, hc, hC⟩ := Kd.R_reads HR.out
  refine (ints_eq A (some ⟨w9.heap.size, 0, none⟩) c 2 2 2 [3, 70] _ rfl rfl (by decide) (Kd.C_below hC ((Below.refl _ _).alloc (Nat.le_refl _) _)) hc (lit2 w9 3 70 3) (Nat.le_refl _)).mono ?_
  rintro e w10 ⟨rfl, ⟨nd, rfl⟩⟩
  go_wp2_with fail
  go_ret
  exact ⟨rfl, pw_below_drewN (HB.out.alloc HB.out.size _) _⟩
end Bits
end Go.Proofs.Ytbcifbogmjfpoaa
