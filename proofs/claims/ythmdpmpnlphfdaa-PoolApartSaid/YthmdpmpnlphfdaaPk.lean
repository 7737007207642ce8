/- The pool in memory: awake. -/
import Derived.Test.YthmdpmpnlphfdaaPt
import Derived.Test.YthmdpmpnlphfdaaReg2
import Derived.Below
import Derived.Deep.MidRow
import Derived.Deep.WholeRow
import Derived.Great.BuildSlice
import Derived.Lib.Hide
import Derived.OwnWalk
import Derived.WalkKit
import Derived.KernelRfl
import Derived.RowKit3
import Derived.Deep.LoopGhost
import Derived.Deep.QuietTactic
import Derived.BigQuiet
import Derived.WideLaws
import Derived.Outline
import Derived.Deep.DeepCutAuto
import Derived.Deep.CutBlock
import Derived.WalkSpells
import Derived.RegionTactic
import Derived.BigRegion
import Derived.WalkLawsBesides
namespace Go.Proofs.Ythmdpmpnlphfdaa
set_option linter.unusedVariables false
set_option linter.unusedSimpArgs false
open Go.RowKit Go.Proofs.YthmdpmpnlphfdaaW.PrintWords Go.Proofs.YthmdpmpnlphfdaaW.PrintLast Go.Proofs.YthmdpmpnlphfdaaW.PrintMore
namespace Bits
open Go.Bits Go.Pool PPoolDoes
def M6 : List Bool := List.replicate 6 false
def M2 : List Bool := [true, true, false, false, false, false]
def M1 : List Bool := [false, true, false, false, false, false]
theorem t1 : takeAll 3 M6 2 = (M2, [3, 4], 0) := by kernel_rfl
theorem t2 : turnAll 3 M2 [4, 5] false 7 = (M2, 7) := by kernel_rfl
theorem t3 : turnAll 3 M2 [5, 5] false 7 = (M2, 7) := by kernel_rfl
theorem t4 : turnAll 3 M2 [2] false 7 = (M2, 10) := by kernel_rfl
theorem t5 : turnAll 3 M2 [3] true 6 = (M1, 0) := by kernel_rfl
theorem t6 : turnAll 3 M1 [3] true 6 = (M1, 6) := by kernel_rfl
theorem t7 : takeAll 3 M1 6 = (M1, [], 2) := by kernel_rfl
theorem t8 : takeAll 3 M1 1 = (M2, [3], 0) := by kernel_rfl
theorem t9 : ((gaps M1).length : Int) = 5 := by kernel_rfl
theorem t10 : (listL M1).map (3 + ·) = [4] := by kernel_rfl
theorem t11 : hasP 3 M1 4 = true := by kernel_rfl
theorem t12 : hasP 3 M1 3 = false := by kernel_rfl
theorem t13 : hasP 3 M2 3 = true := by kernel_rfl
theorem row1 {w : World} {b t : Nat} {x : Int} (hb : w.heap[b]? = some (.cells #[.int .i64 x] t (0, 0))) : Kd.C (Kd.int .i64) w (some ⟨b, 0, none⟩) 1 [x] := by
  refine Kd.C_of_reads (enc := fun x => Value.int .i64 x) (d := (0:Int)) (h1 := fun _ => rfl) ⟨rfl, by omega, fun _ => ⟨_, rfl, fun j hj => ?_⟩⟩
  have hadd : (⟨b, 0, none⟩ : Addr).add j = ⟨b, j, none⟩ := by unfold Addr.add; split <;> simp_all
  rw [hadd, cell_blk hb]
  match j, hj with
  | 0, _ => rfl
theorem row2 {w : World} {b t : Nat} {x y : Int} (hb : w.heap[b]? = some (.cells #[.int .i64 x, .int .i64 y] t (0, 0))) : Kd.C (Kd.int .i64) w (some ⟨b, 0, none⟩) 2 [x, y] := by
  refine Kd.C_of_reads (enc := fun x => Value.int .i64 x) (d := (0:Int)) (h1 := fun _ => rfl) ⟨rfl, by omega, fun _ => ⟨_, rfl, fun j hj => ?_⟩⟩
  have hadd : (⟨b, 0, none⟩ : Addr).add j = ⟨b, j, none⟩ := by unfold Addr.add; split <;> simp_all
  rw [hadd, cell_blk hb]
  match j, hj with
  | 0, _ => rfl
  | 1, _ => rfl
theorem take_eq {w0 : World} {pb sb : Nat} {fr : Int} {l l' : List Bool} {n r : Int} {xs : List Int} (he : takeAll fr l n = (l', xs, r)) (w : World) (h : PAt w pb sb fr l) (hB : Below w0.heap.size w0 w) (hs : w0.heap.size ≤ sb) :
    Calls Try.prog 12 #[.pointer (some ⟨pb, 0, none⟩), .int .i64 n] w fun e w' => ∃ v, e = .returned (.tuple #[v, .int .i64 r]) ∧ Kd.R (Kd.int .i64) 3 w' w0.heap.size (fun k => w.heap.size ≤ k) v xs ∧ PAt w' pb sb fr l' ∧ Only sb w w' := by
  have := take_any n w h hB hs
  rw [he] at this
  exact this
theorem give_eq {pb sb : Nat} {fr r : Int} {l l' : List Bool} (A : Option Addr) (c : Nat) (xs : List Int) (he : turnAll fr l xs true 6 = (l', r)) (w : World) (h : PAt w pb sb fr l) (hrow : ∀ W, Only sb w W → Kd.C (Kd.int .i64) W A xs.length xs) (hc : xs.length ≤ c) (hxs : ∀ x ∈ xs, x ≤ 9223372036854775807) :
    Calls Try.prog 13 #[.pointer (some ⟨pb, 0, none⟩), .slice A xs.length c] w fun e w' => e = .returned (.int .i64 r) ∧ PAt w' pb sb fr l' ∧ Only sb w w' := by
  have := give_any A c xs w h hrow hc hxs
  rw [he] at this
  exact this
theorem mark_eq {pb sb : Nat} {fr r : Int} {l l' : List Bool} (A : Option Addr) (c : Nat) (xs : List Int) (he : turnAll fr l xs false 7 = (l', r)) (w : World) (h : PAt w pb sb fr l) (hrow : ∀ W, Only sb w W → Kd.C (Kd.int .i64) W A xs.length xs) (hc : xs.length ≤ c) (hxs : ∀ x ∈ xs, x ≤ 9223372036854775807) :
    Calls Try.prog 17 #[.pointer (some ⟨pb, 0, none⟩), .slice A xs.length c] w fun e w' => e = .returned (.int .i64 r) ∧ PAt w' pb sb fr l' ∧ Only sb w w' := by
  have := mark_any A c xs w h hrow hc hxs
  rw [he] at this
  exact this
theorem free_eq {pb sb : Nat} {fr r : Int} {l : List Bool} (he : ((gaps l).length : Int) = r) (w : World) (h : PAt w pb sb fr l) :
    Calls Try.prog 14 #[.pointer (some ⟨pb, 0, none⟩)] w fun e w' => e = .returned (.int .i64 r) ∧ Below w.heap.size w w' := by
  have := free_any w h
  rw [he] at this
  exact this
theorem has_eq {pb sb : Nat} {fr : Int} {l : List Bool} {r : Bool} (b : Int) (he : hasP fr l b = r) (w : World) (h : PAt w pb sb fr l) (hb : b ≤ 9223372036854775807) :
    Calls Try.prog 18 #[.pointer (some ⟨pb, 0, none⟩), .int .i64 b] w fun e w' => e = .returned (.bool r) ∧ Below w.heap.size w w' := by
  have := pool_has_any b w h hb
  rw [he] at this
  exact this
theorem taken_eq {w0 : World} {pb sb : Nat} {fr : Int} {l : List Bool} {xs : List Int} (he : (listL l).map (fr + ·) = xs) (w : World) (h : PAt w pb sb fr l) (hB : Below w0.heap.size w0 w) :
    Calls Try.prog 15 #[.pointer (some ⟨pb, 0, none⟩)] w fun e w' => ∃ v, e = .returned v ∧ Kd.R (Kd.int .i64) 3 w' w0.heap.size (fun k => w.heap.size ≤ k) v xs ∧ PAt w' pb sb fr l ∧ Below w0.heap.size w0 w' := by
  have := taken_any w h hB
  rw [he] at this
  exact this
theorem PAt.aside {w w' : World} {pb sb tb : Nat} {fr : Int} {l : List Bool} (h : PAt w pb sb fr l) (ho : Only tb w w') (h1 : pb ≠ tb) (h2 : sb ≠ tb) : PAt w' pb sb fr l :=
  h.step (ho.block pb h.lt h1) (ho.block sb h.set.lt h2)
set_option maxHeartbeats 8000000 in
set_option maxRecDepth 100000 in
theorem awake_any (w : World) : Calls Try.prog 9 #[] w fun e w' => e = .returned (.bool true) ∧ Below w.heap.size w w' := by
  go_enter Try.func9, Try.ntmps9
  go_wp2_with fail
  refine (pool_of_yes 3 6 w (by omega)).mono ?_
  rintro e w1 ⟨pb, sb, rfl, p1, b1, g1, g2⟩
  have HP := Aside0.mk (show PAt w1 pb sb 3 M6 from p1)
  have HB := Aside0.mk b1
  have HG := Aside0.mk (show w.heap.size ≤ pb ∧ w.heap.size ≤ sb from ⟨g1, g2⟩)
  clear p1 b1 g1 g2
  go_wp2_with fail
  refine (pool_of_no 3 2 _ (.inr (.inl (by omega)))).mono ?_
  rintro e w' ⟨rfl, rfl⟩
  go_wp2_with fail
  refine (take_eq (w0 := w) t1 _ HP.out HB.out HG.out.2).mono ?_
  rintro e w2 ⟨v2, rfl, hr2, p2, o2⟩
  have HS1 := Aside0.mk (show sb < w1.heap.size from HP.out.set.lt)
  replace HP := Aside0.mk p2
  replace HB := Aside0.mk (o2.below HB.out HG.out.2 HB.out.size)
  have HL := Aside0.mk (Kd.R_bound hr2)
  have HS := Aside0.mk HS1.out
  obtain ⟨A2, n2, rfl⟩ := Kd.R_slice hr2
  have hn2 := (Kd.R_reads' hr2).2.1
  clear hr2 p2 o2
  go_wp2_with fail
  have hqw3 := heap_alloc_new w2 (.cells #[.int .i64 4, .int .i64 5] 3)
  refine (mark_eq (some ⟨w2.heap.size, 0, none⟩) 2 [4, 5] t2 _ (HP.out.below ((Below.refl _ _).alloc (Nat.le_refl _) _)) (fun W' h => row2 (h.blk hqw3 (by have := HP.out.set.lt; omega))) (Nat.le_refl _) (by decide)).mono ?_
  rintro e w3 ⟨rfl, p, o⟩
  replace HP := Aside0.mk p
  have hzw3 : w2.heap.size < w3.heap.size := by have := o.size; simp at this; omega
  have HOw3 := Aside0.mk ((Only.of_below (b := sb) ((Below.refl w2.heap.size w2).alloc (Nat.le_refl _) (.cells #[.int .i64 4, .int .i64 5] 3))).trans o)
  replace HB := Aside0.mk (HOw3.out.below HB.out HG.out.2 HB.out.size)
  clear p o hqw3
  go_wp2_with fail
  have hqw4 := heap_alloc_new w3 (.cells #[.int .i64 5, .int .i64 5] 3)
  refine (mark_eq (some ⟨w3.heap.size, 0, none⟩) 2 [5, 5] t3 _ (HP.out.below ((Below.refl _ _).alloc (Nat.le_refl _) _)) (fun W' h => row2 (h.blk hqw4 (by have := HP.out.set.lt; omega))) (Nat.le_refl _) (by decide)).mono ?_
  rintro e w4 ⟨rfl, p, o⟩
  replace HP := Aside0.mk p
  have hzw4 : w3.heap.size < w4.heap.size := by have := o.size; simp at this; omega
  have HOw4 := Aside0.mk ((Only.of_below (b := sb) ((Below.refl w3.heap.size w3).alloc (Nat.le_refl _) (.cells #[.int .i64 5, .int .i64 5] 3))).trans o)
  replace HB := Aside0.mk (HOw4.out.below HB.out HG.out.2 HB.out.size)
  clear p o hqw4
  go_wp2_with fail
  have hqw5 := heap_alloc_new w4 (.cells #[.int .i64 2] 3)
  refine (mark_eq (some ⟨w4.heap.size, 0, none⟩) 1 [2] t4 _ (HP.out.below ((Below.refl _ _).alloc (Nat.le_refl _) _)) (fun W' h => row1 (h.blk hqw5 (by have := HP.out.set.lt; omega))) (Nat.le_refl _) (by decide)).mono ?_
  rintro e w5 ⟨rfl, p, o⟩
  replace HP := Aside0.mk p
  have hzw5 : w4.heap.size < w5.heap.size := by have := o.size; simp at this; omega
  have HOw5 := Aside0.mk ((Only.of_below (b := sb) ((Below.refl w4.heap.size w4).alloc (Nat.le_refl _) (.cells #[.int .i64 2] 3))).trans o)
  replace HB := Aside0.mk (HOw5.out.below HB.out HG.out.2 HB.out.size)
  clear p o hqw5
  go_wp2_with fail
  have hqw6 := heap_alloc_new w5 (.cells #[.int .i64 3] 3)
  refine (give_eq (some ⟨w5.heap.size, 0, none⟩) 1 [3] t5 _ (HP.out.below ((Below.refl _ _).alloc (Nat.le_refl _) _)) (fun W' h => row1 (h.blk hqw6 (by have := HP.out.set.lt; omega))) (Nat.le_refl _) (by decide)).mono ?_
  rintro e w6 ⟨rfl, p, o⟩
  replace HP := Aside0.mk p
  have hzw6 : w5.heap.size < w6.heap.size := by have := o.size; simp at this; omega
  have HOw6 := Aside0.mk ((Only.of_below (b := sb) ((Below.refl w5.heap.size w5).alloc (Nat.le_refl _) (.cells #[.int .i64 3] 3))).trans o)
  replace HB := Aside0.mk (HOw6.out.below HB.out HG.out.2 HB.out.size)
  clear p o hqw6
  go_wp2_with fail
  have hqw7 := heap_alloc_new w6 (.cells #[.int .i64 3] 3)
  refine (give_eq (some ⟨w6.heap.size, 0, none⟩) 1 [3] t6 _ (HP.out.below ((Below.refl _ _).alloc (Nat.le_refl _) _)) (fun W' h => row1 (h.blk hqw7 (by have := HP.out.set.lt; omega))) (Nat.le_refl _) (by decide)).mono ?_
  rintro e w7 ⟨rfl, p, o⟩
  replace HP := Aside0.mk p
  have hzw7 : w6.heap.size < w7.heap.size := by have := o.size; simp at this; omega
  have HOw7 := Aside0.mk ((Only.of_below (b := sb) ((Below.refl w6.heap.size w6).alloc (Nat.le_refl _) (.cells #[.int .i64 3] 3))).trans o)
  replace HB := Aside0.mk (HOw7.out.below HB.out HG.out.2 HB.out.size)
  clear p o hqw7
  go_wp2_with fail
  refine (take_eq (w0 := w) t7 _ HP.out HB.out HG.out.2).mono ?_
  rintro e w8 ⟨v8, rfl, hr8, p8, o8⟩
  have HO8 := Aside0.mk o8
  replace HP := Aside0.mk p8
  replace HB := Aside0.mk (o8.below HB.out HG.out.2 HB.out.size)
  obtain ⟨A8, n8, rfl⟩ := Kd.R_slice hr8
  clear hr8 p8 o8
  go_wp2_with fail
  refine (pool_clone_any _ HP.out).mono ?_
  rintro e w9 ⟨qb, tb, rfl, q9, b9, g1, g2⟩
  have HQ := Aside0.mk q9
  have HTB := Aside0.mk g2
  have HN := Aside0.mk (show pb ≠ qb ∧ pb ≠ tb ∧ sb ≠ qb ∧ sb ≠ tb by have := HP.out.lt; have := HP.out.set.lt; omega)
  have HG2 := Aside0.mk (show w.heap.size ≤ qb ∧ w.heap.size ≤ tb by have := HB.out.size; omega)
  replace HP := Aside0.mk (HP.out.below b9)
  have HO9 := Aside0.mk (Only.of_below (b := sb) b9)
  replace HB := Aside0.mk (HB.out.trans (b9.mono HB.out.size))
  clear q9 b9 g1 g2
  go_wp2_with fail
  refine (take_eq (w0 := w) t8 _ HQ.out HB.out HG2.out.2).mono ?_
  rintro e w10 ⟨v10, rfl, hr10, p10, o10⟩
  replace HQ := Aside0.mk p10
  replace HP := Aside0.mk (HP.out.aside o10 HN.out.2.1 HN.out.2.2.2)
  replace HB := Aside0.mk (o10.below HB.out HG2.out.2 HB.out.size)
  have hO := (((((HOw3.out.trans HOw4.out).trans HOw5.out).trans HOw6.out).trans HOw7.out).trans HO8.out).trans HO9.out
  have hs1 := HS1.out
  have hs2 := (((((HOw3.out.trans HOw4.out).trans HOw5.out).trans HOw6.out).trans HOw7.out).trans HO8.out).size
  have htb := HTB.out
  have hr := Kd.R_step (Kd.R_step HL.out (fun k hk hlt => hO.block k hlt (by have := hk.1; omega))) (fun k hk hlt => o10.block k hlt (by have := hk.2.2.1; omega))
  have HL10 := Aside0.mk (Kd.R_reads' hr).2.2
  clear hO hs1 hs2 htb hr
  clear hr10 p10 o10
  go_wp2_with fail
  have hq11 := heap_alloc_new w10 (.cells #[.int .i64 3, .int .i64 4] 3)
  have HA10 := Aside0.mk ((Below.refl w10.heap.size w10).alloc (Nat.le_refl _) (.cells #[.int .i64 3, .int .i64 4] 3))
  refine (ints_eq A2 (some ⟨w10.heap.size, 0, none⟩) n2 2 2 2 [3, 4] _ rfl rfl (by decide) (Kd.C_below HL10.out HA10.out) hn2 (row2 hq11) (Nat.le_refl _)).mono ?_
  rintro e w11 ⟨rfl, ⟨n11, rfl⟩⟩
  obtain ⟨w11, hw11⟩ : ∃ w11, w11 = (w10.alloc (.cells #[.int .i64 3, .int .i64 4] 3)).drewN n11 := ⟨_, rfl⟩
  rw [← hw11]
  have hb11 : Below w10.heap.size w10 w11 := by rw [hw11]; exact pw_below_drewN HA10.out n11
  replace HP := Aside0.mk (HP.out.below hb11)
  replace HQ := Aside0.mk (HQ.out.below hb11)
  replace HB := Aside0.mk (HB.out.trans (hb11.mono HB.out.size))
  clear hq11 hw11 hb11
  go_wp2_with fail
  refine (free_eq t9 _ HP.out).mono ?_
  rintro e w12 ⟨rfl, b⟩
  replace HP := Aside0.mk (HP.out.below b)
  replace HQ := Aside0.mk (HQ.out.below b)
  replace HB := Aside0.mk (HB.out.trans (b.mono HB.out.size))
  clear b
  go_wp2_with fail
  refine (taken_eq (w0 := w12) t10 _ HP.out (Below.refl _ _)).mono ?_
  rintro e w13 ⟨v13, rfl, hr13, p, b⟩
  obtain ⟨A13, n13, rfl⟩ := Kd.R_slice hr13
  have HR13 := Aside0.mk (Kd.R_reads' hr13).2.2
  have hn13 := (Kd.R_reads' hr13).2.1
  replace HP := Aside0.mk (HP.out.below b)
  replace HQ := Aside0.mk (HQ.out.below b)
  replace HB := Aside0.mk (HB.out.trans (b.mono HB.out.size))
  clear b hr13 p
  go_wp2_with fail
  have hq14 := heap_alloc_new w13 (.cells #[.int .i64 4] 3)
  have HA13 := Aside0.mk ((Below.refl w13.heap.size w13).alloc (Nat.le_refl _) (.cells #[.int .i64 4] 3))
  refine (ints_eq A13 (some ⟨w13.heap.size, 0, none⟩) n13 1 1 1 [4] _ rfl rfl (by decide) (Kd.C_below HR13.out HA13.out) hn13 (row1 hq14) (Nat.le_refl _)).mono ?_
  rintro e w14 ⟨rfl, ⟨n14, rfl⟩⟩
  obtain ⟨w14, hw14⟩ : ∃ w14, w14 = (w13.alloc (.cells #[.int .i64 4] 3)).drewN n14 := ⟨_, rfl⟩
  rw [← hw14]
  have hb14 : Below w13.heap.size w13 w14 := by rw [hw14]; exact pw_below_drewN HA13.out n14
  replace HP := Aside0.mk (HP.out.below hb14)
  replace HQ := Aside0.mk (HQ.out.below hb14)
  replace HB := Aside0.mk (HB.out.trans (hb14.mono HB.out.size))
  clear hq14 hw14 hb14
  go_wp2_with fail
  refine (has_eq 4 t11 _ HP.out (by decide)).mono ?_
  rintro e w15 ⟨rfl, b⟩
  replace HP := Aside0.mk (HP.out.below b)
  replace HQ := Aside0.mk (HQ.out.below b)
  replace HB := Aside0.mk (HB.out.trans (b.mono HB.out.size))
  clear b
  go_wp2_with fail
  refine (has_eq 3 t12 _ HP.out (by decide)).mono ?_
  rintro e w16 ⟨rfl, b⟩
  replace HP := Aside0.mk (HP.out.below b)
  replace HQ := Aside0.mk (HQ.out.below b)
  replace HB := Aside0.mk (HB.out.trans (b.mono HB.out.size))
  clear b
  go_wp2_with fail
  refine (has_eq 3 t13 _ HQ.out (by decide)).mono ?_
  rintro e w17 ⟨rfl, b⟩
  replace HB := Aside0.mk (HB.out.trans (b.mono HB.out.size))
  clear b
  go_wp2_with fail
  go_ret
  exact ⟨rfl, HB.out⟩
end Bits
end Go.Proofs.Ythmdpmpnlphfdaa
