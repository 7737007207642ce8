/- The pool in memory: one deed with both. -/
import Derived.Test.YthmdpmpnlphfdaaPn
import Derived.Test.YthmdpmpnlphfdaaReg2
import Derived.Below
import Derived.Deep.MidRow
import Derived.Deep.WholeRow
import Derived.Great.BuildSlice
import Derived.Lib.Hide
import Derived.OwnWalk
import Derived.WalkKit
import Derived.KernelRfl
import Derived.RowKit3
import Derived.Deep.LoopGhost
import Derived.Deep.QuietTactic
import Derived.BigQuiet
import Derived.WideLaws
import Derived.Outline
import Derived.Deep.DeepCutAuto
import Derived.Deep.CutBlock
import Derived.WalkSpells
import Derived.RegionTactic
import Derived.BigRegion
import Derived.WalkLawsBesides
namespace Go.Proofs.Ythmdpmpnlphfdaa
set_option linter.unusedVariables false
set_option linter.unusedSimpArgs false
open Go.RowKit Go.Proofs.YthmdpmpnlphfdaaW.PrintWords Go.Proofs.YthmdpmpnlphfdaaW.PrintLast Go.Proofs.YthmdpmpnlphfdaaW.PrintMore
namespace Bits
open Go.Bits Go.Pool PPoolDoes
/-- What a deed leaves. -/
def doL (fr : Int) (l : List Bool) (K N : Int) (xs : List Int) : List Bool :=
  if K = 1 then (takeAll fr l N).1 else if K = 2 then (turnAll fr l xs true 6).1 else if K = 3 then (turnAll fr l xs false 7).1 else l
/-- All but one block as in V; that one holds o, or n. -/
structure Late (B : Nat) (V : World) (t : Nat) (o n : Array Value) (d : Bool) (x : World) : Prop where
  only : Only B V x
  blk : x.heap[B]? = some (.cells (if d then n else o) t (0, 0))
theorem Late.drewN {B t : Nat} {V x : World} {o n : Array Value} {d : Bool} (h : Late B V t o n d x) (k : Nat) : Late B V t o n d (x.drewN k) := ⟨h.only.drewN k, h.blk⟩
theorem Late.below {B t : Nat} {V x y : World} {o n : Array Value} {d : Bool} (h : Late B V t o n d x) (hb : Below x.heap.size x y) : Late B V t o n d y :=
  ⟨h.only.trans (.of_below hb), (hb.block B (Array.getElem?_eq_some_iff.1 h.blk).1).trans h.blk⟩
theorem Late.set {B t : Nat} {V x : World} {x0 x1 y0 y1 : Value} {d : Bool} (h : Late B V t #[x0, x1] #[y0, y1] d x) : Late B V t #[x0, x1] #[y0, y1] true ((x.setCell ⟨B, 0, none⟩ y0).setCell ⟨B, 1, none⟩ y1) := by
  cases d
  · obtain ⟨s1, s2⟩ := two_set h.blk y0 y1
    exact ⟨h.only.trans s2, s1⟩
  · obtain ⟨s1, s2⟩ := two_set h.blk y0 y1
    exact ⟨h.only.trans s2, s1⟩
theorem Late.c0 {B t : Nat} {V x : World} {x0 x1 y0 y1 : Value} {d : Bool} (h : Late B V t #[x0, x1] #[y0, y1] d x) : x.cell? ⟨B, 0, none⟩ = some (if d then y0 else x0) := by
  have := h.blk
  cases d <;> exact cell_blk this
theorem Late.c1 {B t : Nat} {V x : World} {x0 x1 y0 y1 : Value} {d : Bool} (h : Late B V t #[x0, x1] #[y0, y1] d x) : x.cell? ⟨B, 1, none⟩ = some (if d then y1 else x1) := by
  have := h.blk
  cases d <;> exact cell_blk this
theorem Late.fro {B t : Nat} {V x : World} {o n : Array Value} {d : Bool} (h : Late B V t o n d x) (k : Nat) : x.frozen? ⟨B, k, none⟩ = false := frozen_blk h.blk
theorem Late.size {B t : Nat} {V x : World} {o n : Array Value} {d : Bool} (h : Late B V t o n d x) : B < x.heap.size := (Array.getElem?_eq_some_iff.1 h.blk).1
theorem PAt.step {w w' : World} {pb sb : Nat} {fr : Int} {l : List Bool} (h : PAt w pb sb fr l) (h1 : w'.heap[pb]? = w.heap[pb]?) (h2 : w'.heap[sb]? = w.heap[sb]?) : PAt w' pb sb fr l :=
  ⟨h1.trans h.cells, h.set.keep h2, h.low, h.high⟩
theorem Only.blk {b k : Nat} {w w' : World} {o : Obj} (h : Only b w w') (hk : w.heap[k]? = some o) (hne : k ≠ b) : w'.heap[k]? = some o := (h.block k (Array.getElem?_eq_some_iff.1 hk).1 hne).trans hk
theorem Only.of_belowB {b : Nat} {x y : World} (h : Below x.heap.size x y) : Only b x y := .of_below h
/-- Behind a block that is new: only the old one. -/
theorem Only.forget {b c : Nat} {x y z : World} (h : Only b x y) (k : Only c y z) (hc : x.heap.size ≤ c) : Only b x z :=
  ⟨k.os.trans h.os, k.tape.trans h.tape, k.output.trans h.output, Nat.le_trans h.size k.size, fun i hi hne => (k.block i (Nat.lt_of_lt_of_le hi h.size) (by omega)).trans (h.block i hi hne)⟩
theorem PAt.row_ne {w : World} {base pb sb : Nat} {fr : Int} {v : Value} {l l' : List Bool} (h : PAt w pb sb fr l) (hr : PRow w base v l') : some sb ≠ v.ownBlock := by
  have h2 := h.set
  obtain ⟨ws, hb, _⟩ := h2
  exact Kd.R_ne hr hb (by decide)
theorem row_only {w w' : World} {base sb : Nat} {v : Value} {l : List Bool} (h : PRow w base v l) (ho : Only sb w w') (hne : some sb ≠ v.ownBlock) : PRow w' base v l :=
  Kd.R_step h (fun k hk hlt => ho.block k hlt (fun e => hne (by rw [← e]; exact hk)))
set_option maxHeartbeats 8000000 in
set_option maxRecDepth 100000 in
theorem do_take {w0 w : World} {pb sb : Nat} {fr : Int} {v : Value} {l : List Bool} (K N : Int) (A : Option Addr) (c : Nat) (xs : List Int) (hp : PAt w pb sb fr l) (hr : PRow w w0.heap.size v l) (hB : Below w0.heap.size w0 w) (hs : w0.heap.size ≤ sb) (hrow : ∀ W, Below w0.heap.size w0 W → Kd.C (Kd.int .i64) W A xs.length xs) (hc : xs.length ≤ c) (hxs : ∀ x ∈ xs, x ≤ 9223372036854775807) (hx30 : xs.length ≤ 30) (hN : N ≤ 9223372036854775807) (hK : K = 1) :
    Calls Try.prog 10 #[.pointer (some ⟨pb, 0, none⟩), .agg #[.int .i64 fr, v], .agg #[.int .i64 K, .int .i64 N, .slice A xs.length c]] w fun e w' => ∃ v', e = .returned (.tuple #[.agg #[.int .i64 fr, v'], .bool true]) ∧ PAt w' pb sb fr (takeAll fr l N).1 ∧ PRow w' w0.heap.size v' (takeAll fr l N).1 ∧ Only sb w w' := by
  subst hK
  obtain ⟨AX, cX, rfl, hcX, hCX⟩ := Kd.R_reads hr
  have HP0 := Aside0.mk hp
  have HR0 := Aside0.mk hr
  have HB0 := Aside0.mk hB
  have HS0 := Aside0.mk hs
  have HROW := Aside0.mk hrow
  have HXS := Aside0.mk hxs
  have hl := hp.len
  have hlow := hp.low
  have hhigh := hp.high
  clear hp hr hB hs hrow hxs hCX
  go_enter Try.func10, Try.ntmps10
  go_wp2_with fail
  obtain ⟨W, hW⟩ : ∃ W, W = ((w.alloc (.cells #[.int .i64 fr, .slice AX l.length cX] 29)).alloc (.cells #[.int .i64 1, .int .i64 N, .slice A xs.length c] 38)).alloc (.cells #[.int .i64 0, .slice none 0 0] 29) := ⟨_, rfl⟩
  have hWb : Below w.heap.size w W := by rw [hW]; exact (((Below.refl _ _).alloc (Nat.le_refl _) _).alloc (by simp) _).alloc (by simp; omega) _
  have hb4 : W.heap[w.heap.size]? = some (.cells #[.int .i64 fr, .slice AX l.length cX] 29 (0, 0)) := by
    rw [hW, heap_alloc_old _ _ (by simp; omega), heap_alloc_old _ _ (by simp)]
    exact heap_alloc_new w _
  have hb5 : W.heap[w.heap.size + 1]? = some (.cells #[.int .i64 1, .int .i64 N, .slice A xs.length c] 38 (0, 0)) := by
    rw [hW, heap_alloc_old _ _ (by simp)]
    have := heap_alloc_new (w.alloc (.cells #[.int .i64 fr, .slice AX l.length cX] 29)) (.cells #[.int .i64 1, .int .i64 N, .slice A xs.length c] 38)
    simpa using this
  have hb6 : W.heap[w.heap.size + 1 + 1]? = some (.cells #[.int .i64 0, .slice none 0 0] 29 (0, 0)) := by
    rw [hW]
    have := heap_alloc_new ((w.alloc (.cells #[.int .i64 fr, .slice AX l.length cX] 29)).alloc (.cells #[.int .i64 1, .int .i64 N, .slice A xs.length c] 38)) (.cells #[.int .i64 0, .slice none 0 0] 29)
    simpa using this
  rw [← hW]
  clear hW
  have HPS := Aside0.mk (show sb < w.heap.size ∧ pb < w.heap.size from ⟨HP0.out.set.lt, HP0.out.lt⟩)
  have hWs := hWb.size
  have hW3 : w.heap.size + 1 + 1 < W.heap.size := (Array.getElem?_eq_some_iff.1 hb6).1
  have HOWN := Aside0.mk (Kd.R_lt HR0.out)
  have HWB := Aside0.mk hWb
  have HP := Aside0.mk (HP0.out.below hWb)
  have HR := Aside0.mk (Kd.R_below HR0.out hWb)
  have HB := Aside0.mk (HB0.out.trans (hWb.mono HB0.out.size))
  refine (take_any N W HP.out HB.out HS0.out).mono ?_
  rintro e w1 ⟨v1, rfl, hr1, hp1, ho1⟩
  have k4 := ho1.blk hb4 (by have := HPS.out; omega)
  have k5 := ho1.blk hb5 (by have := HPS.out; omega)
  have k6 := ho1.blk hb6 (by have := HPS.out; omega)
  have HK4 := Aside0.mk k4
  have HK5 := Aside0.mk k5
  have HK6 := Aside0.mk k6
  have HP1 := Aside0.mk hp1
  have HR1 := Aside0.mk (row_only HR.out ho1 (HP.out.row_ne HR.out))
  have HO1 := Aside0.mk ((Only.of_below (b := sb) HWB.out).trans ho1)
  have HB1 := Aside0.mk (HO1.out.below HB0.out HS0.out HB0.out.size)
  have c40 : w1.cell? ⟨w.heap.size, 0, none⟩ = some (.int .i64 fr) := cell_blk k4
  have c41 : w1.cell? ⟨w.heap.size, 1, none⟩ = some (.slice AX l.length cX) := cell_blk k4
  have c51 : w1.cell? ⟨w.heap.size + 1, 1, none⟩ = some (.int .i64 N) := cell_blk k5
  have c52 : w1.cell? ⟨w.heap.size + 1, 2, none⟩ = some (.slice A xs.length c) := cell_blk k5
  have hs1 : W.heap.size ≤ w1.heap.size := ho1.size
  have HL1 := Aside0.mk hr1
  obtain ⟨A1, n1, rfl⟩ := Kd.R_slice hr1
  clear hb4 hb5 hb6 k4 k5 k6 hr1 hp1 ho1 hWb
  go_wp2_with fail
  refine (rtake fr N HR1.out HB1.out.size hlow hhigh).mono ?_
  rintro e w2 ⟨v2, A3, n3, rfl, hr2, hc2, hn3, b2⟩
  replace HK4 := Aside0.mk ((b2.block _ (Array.getElem?_eq_some_iff.1 HK4.out).1).trans HK4.out)
  replace HK5 := Aside0.mk ((b2.block _ (Array.getElem?_eq_some_iff.1 HK5.out).1).trans HK5.out)
  replace HK6 := Aside0.mk ((b2.block _ (Array.getElem?_eq_some_iff.1 HK6.out).1).trans HK6.out)
  replace HP1 := Aside0.mk (HP1.out.below b2)
  replace HL1 := Aside0.mk (Kd.R_below HL1.out b2)
  replace HO1 := Aside0.mk (HO1.out.trans (.of_below b2))
  have HR2 := Aside0.mk hr2
  have HC2 := Aside0.mk hc2
  have hs2 : w1.heap.size ≤ w2.heap.size := b2.size
  obtain ⟨A2, n2, rfl⟩ := Kd.R_slice hr2
  clear hr2 hc2 b2 c40 c41 c51 c52
  go_wp2_with fail
  obtain ⟨V, hV⟩ : ∃ V, V = w2.alloc (.cells #[.int .i64 fr, .slice A2 (takeAll fr l N).1.length n2] 29) := ⟨_, rfl⟩
  have hVb : Below w2.heap.size w2 V := by rw [hV]; exact (Below.refl _ _).alloc (Nat.le_refl _) _
  have HBX := Aside0.mk (show V.heap[w2.heap.size]? = some (.cells #[.int .i64 fr, .slice A2 (takeAll fr l N).1.length n2] 29 (0, 0)) by rw [hV]; exact heap_alloc_new w2 _)
  rw [← hV]
  clear hV
  replace HK6 := Aside0.mk ((hVb.block _ (Array.getElem?_eq_some_iff.1 HK6.out).1).trans HK6.out)
  replace HP1 := Aside0.mk (HP1.out.below hVb)
  replace HL1 := Aside0.mk (Kd.R_below HL1.out hVb)
  replace HO1 := Aside0.mk (HO1.out.trans (.of_below hVb))
  replace HR2 := Aside0.mk (Kd.R_below HR2.out hVb)
  have hs3 : w2.heap.size ≤ V.heap.size := hVb.size
  have HC3 := Aside0.mk (show ∀ x, Only (w.heap.size + 1 + 1) V x → Kd.C (Kd.int .i64) x A3 (takeAll fr l N).2.1.length (takeAll fr l N).2.1 from fun x hx => HC2.out x (fun k h1 h2 => (hx.block k (by omega) (by omega)).trans (hVb.block k h2)))
  have HC1 := Aside0.mk (show ∀ x, Only (w.heap.size + 1 + 1) V x → Kd.C (Kd.int .i64) x A1 (takeAll fr l N).2.1.length (takeAll fr l N).2.1 from fun x hx => (Kd.R_reads' (Kd.R_step HL1.out (fun k hk hlt => hx.block k hlt (by omega)))).2.2)
  have hn1 : (takeAll fr l N).2.1.length ≤ n1 := (Kd.R_reads' HL1.out).2.1
  have HT := Aside0.mk (show (takeAll fr l N).2.1.length ≤ 4096 by
    have h1 := gaps_len l
    unfold takeAll
    split
    · simp
    · split
      · simp
      · simp only [List.length_map, List.length_take]
        omega)
  clear hVb HC2
  obtain ⟨B, hB⟩ : ∃ B, B = w.heap.size + 1 + 1 := ⟨_, rfl⟩
  rw [← hB] at HK6 HC1 HC3
  rw [← hB]
  have HBE := Aside0.mk hB
  have hBl : B < w2.heap.size := by omega
  clear hB
  obtain ⟨CT, hCT⟩ : ∃ CT : Bool → World → Prop, CT = Late B V 29 #[.int .i64 0, .slice none 0 0] #[.int .i64 fr, .slice A2 (takeAll fr l N).1.length n2] := ⟨_, rfl⟩
  have hin : ∀ d x, CT d x → Late B V 29 #[.int .i64 0, .slice none 0 0] #[.int .i64 fr, .slice A2 (takeAll fr l N).1.length n2] d x := fun d x h => by rw [hCT] at h; exact h
  have hout : ∀ d x, Late B V 29 #[.int .i64 0, .slice none 0 0] #[.int .i64 fr, .slice A2 (takeAll fr l N).1.length n2] d x → CT d x := fun d x h => by rw [hCT]; exact h
  have HIN := Aside0.mk hin
  have HOUT := Aside0.mk hout
  clear hCT hin hout
  refine Go.Reg.region_t CT [false, false, false, false, false, false, false, false, false, true, false] (by kernel_rfl) (by kernel_rfl) (HOUT.out _ _ ⟨.of_below (below_drew1 (Below.refl _ _)), HK6.out⟩) (fun ne => ?_)
  have hxl : w2.heap.size < V.heap.size := (Array.getElem?_eq_some_iff.1 HBX.out).1
  have hb0 : ∀ m : Go.Reg.In (Go.Reg.Cany CT), m.w.cell? ⟨w2.heap.size, 0, none⟩ = some (.int .i64 fr) := fun m => by
    obtain ⟨d, hd⟩ := m.h
    exact cell_blk ((HIN.out _ _ hd).only.blk HBX.out (by omega))
  have hb1 : ∀ m : Go.Reg.In (Go.Reg.Cany CT), m.w.cell? ⟨w2.heap.size, 1, none⟩ = some (.slice A2 (takeAll fr l N).1.length n2) := fun m => by
    obtain ⟨d, hd⟩ := m.h
    exact cell_blk ((HIN.out _ _ hd).only.blk HBX.out (by omega))
  refine Go.Reg.lexT_q 3 _ _ _ _ (by rfl) ?_; simp only [List.take_succ_cons, List.take_zero, List.drop_succ_cons, List.drop_zero]; (repeat (go_big_quiet_step (rfl))); refine wpQuiet_nil ?_
  refine Go.Reg.step_u (.bool true) (by rfl) (fun d x hx K hK => ?_) ?_
  · go_wp2_with fail
    refine (ints_eq _ _ _ _ _ _ (takeAll fr l N).2.1 _ (by rfl) (by rfl) HT.out (HC1.out _ (HIN.out _ _ hx).only) hn1 (HC3.out _ (HIN.out _ _ hx).only) hn3).mono ?_
    rintro e w5 ⟨rfl, ⟨nd, rfl⟩⟩
    go_wp2_with fail
    refine hK.out _ _ (by simp only [Act.put, List.setIfInBounds_toArray, List.set_cons_succ, List.set_cons_zero]) ?_
    exact HOUT.out _ _ (by simp only [List.headD_cons, Bool.or_false]; exact (HIN.out _ _ hx).drewN nd)
  simp only [Act.put, List.setIfInBounds_toArray, List.set_cons_succ, List.set_cons_zero, List.tail_cons, List.headD_cons, Bool.or_false]
  refine Go.Reg.lexT_q 5 _ _ _ _ (by rfl) ?_; simp only [List.take_succ_cons, List.take_zero, List.drop_succ_cons, List.drop_zero]; (repeat (go_big_quiet_step (rfl))); refine wpQuiet_nil ?_
  refine Go.Reg.step_u undef (by rfl) (fun d x hx K hK => ?_) ?_
  · have e0 := (HIN.out _ _ hx).c0
    have e1 := (HIN.out _ _ hx).c1
    have e2 := (HIN.out _ _ hx).fro 0
    have e3 := (HIN.out _ _ hx).fro 1
    go_wp2_with fail
    refine hK.out _ _ (by simp only [Act.put]) ?_
    exact HOUT.out _ _ (by simp only [List.headD_cons, Bool.or_true]; exact (HIN.out _ _ hx).set)
  simp only [Act.put, List.setIfInBounds_toArray, List.set_cons_succ, List.set_cons_zero, List.tail_cons, List.headD_cons, Bool.or_true]
  refine Go.Reg.lexT_q 1 _ _ _ _ (by rfl) ?_; simp only [List.take_succ_cons, List.take_zero, List.drop_succ_cons, List.drop_zero]; (repeat (go_big_quiet_step (rfl))); refine wpQuiet_nil ?_
  refine Go.Reg.lexT_nil (fun w3 hw3 => ?_)
  go_wp2_with fail
  have hL := HIN.out _ _ hw3
  have hbe := HBE.out
  have hps := HPS.out
  refine bodyPost_ret (results_ct rfl _ _ B 29 #[.int .i64 fr, .slice A2 (takeAll fr l N).1.length n2] (0, 0) _ rfl hL.blk Try.underlying29 rfl (by kernel_rfl)) rfl ?_
  exact ⟨_, rfl, HP1.out.step (hL.only.block pb HP1.out.lt (by omega)) (hL.only.block sb HP1.out.set.lt (by omega)), row_only HR2.out hL.only (Kd.R_ne HR2.out HK6.out (by decide)), HO1.out.forget hL.only (by omega)⟩
set_option maxHeartbeats 8000000 in
set_option maxRecDepth 100000 in
theorem do_give {w0 w : World} {pb sb : Nat} {fr : Int} {v : Value} {l : List Bool} (K N : Int) (A : Option Addr) (c : Nat) (xs : List Int) (hp : PAt w pb sb fr l) (hr : PRow w w0.heap.size v l) (hB : Below w0.heap.size w0 w) (hs : w0.heap.size ≤ sb) (hrow : ∀ W, Below w0.heap.size w0 W → Kd.C (Kd.int .i64) W A xs.length xs) (hc : xs.length ≤ c) (hxs : ∀ x ∈ xs, x ≤ 9223372036854775807) (hx30 : xs.length ≤ 30) (hN : N ≤ 9223372036854775807) (hK : K = 2) :
    Calls Try.prog 10 #[.pointer (some ⟨pb, 0, none⟩), .agg #[.int .i64 fr, v], .agg #[.int .i64 K, .int .i64 N, .slice A xs.length c]] w fun e w' => ∃ v', e = .returned (.tuple #[.agg #[.int .i64 fr, v'], .bool true]) ∧ PAt w' pb sb fr (turnAll fr l xs true 6).1 ∧ PRow w' w0.heap.size v' (turnAll fr l xs true 6).1 ∧ Only sb w w' := by
  subst hK
  obtain ⟨AX, cX, rfl, hcX, hCX⟩ := Kd.R_reads hr
  have HP0 := Aside0.mk hp
  have HR0 := Aside0.mk hr
  have HB0 := Aside0.mk hB
  have HS0 := Aside0.mk hs
  have HROW := Aside0.mk hrow
  have HXS := Aside0.mk hxs
  have hl := hp.len
  have hlow := hp.low
  have hhigh := hp.high
  clear hp hr hB hs hrow hxs hCX
  go_enter Try.func10, Try.ntmps10
  go_wp2_with fail
  obtain ⟨W, hW⟩ : ∃ W, W = ((w.alloc (.cells #[.int .i64 fr, .slice AX l.length cX] 29)).alloc (.cells #[.int .i64 2, .int .i64 N, .slice A xs.length c] 38)).alloc (.cells #[.int .i64 0, .slice none 0 0] 29) := ⟨_, rfl⟩
  have hWb : Below w.heap.size w W := by rw [hW]; exact (((Below.refl _ _).alloc (Nat.le_refl _) _).alloc (by simp) _).alloc (by simp; omega) _
  have hb4 : W.heap[w.heap.size]? = some (.cells #[.int .i64 fr, .slice AX l.length cX] 29 (0, 0)) := by
    rw [hW, heap_alloc_old _ _ (by simp; omega), heap_alloc_old _ _ (by simp)]
    exact heap_alloc_new w _
  have hb5 : W.heap[w.heap.size + 1]? = some (.cells #[.int .i64 2, .int .i64 N, .slice A xs.length c] 38 (0, 0)) := by
    rw [hW, heap_alloc_old _ _ (by simp)]
    have := heap_alloc_new (w.alloc (.cells #[.int .i64 fr, .slice AX l.length cX] 29)) (.cells #[.int .i64 2, .int .i64 N, .slice A xs.length c] 38)
    simpa using this
  have hb6 : W.heap[w.heap.size + 1 + 1]? = some (.cells #[.int .i64 0, .slice none 0 0] 29 (0, 0)) := by
    rw [hW]
    have := heap_alloc_new ((w.alloc (.cells #[.int .i64 fr, .slice AX l.length cX] 29)).alloc (.cells #[.int .i64 2, .int .i64 N, .slice A xs.length c] 38)) (.cells #[.int .i64 0, .slice none 0 0] 29)
    simpa using this
  rw [← hW]
  clear hW
  have HPS := Aside0.mk (show sb < w.heap.size ∧ pb < w.heap.size from ⟨HP0.out.set.lt, HP0.out.lt⟩)
  have hWs := hWb.size
  have hW3 : w.heap.size + 1 + 1 < W.heap.size := (Array.getElem?_eq_some_iff.1 hb6).1
  have HOWN := Aside0.mk (Kd.R_lt HR0.out)
  have HWB := Aside0.mk hWb
  have HP := Aside0.mk (HP0.out.below hWb)
  have HR := Aside0.mk (Kd.R_below HR0.out hWb)
  have HB := Aside0.mk (HB0.out.trans (hWb.mono HB0.out.size))
  refine (give_any A c xs W HP.out (fun W' h => HROW.out W' (h.below HB.out HS0.out HB.out.size)) hc HXS.out).mono ?_
  rintro e w1 ⟨rfl, hp1, ho1⟩
  have k4 := ho1.blk hb4 (by have := HPS.out; omega)
  have k5 := ho1.blk hb5 (by have := HPS.out; omega)
  have k6 := ho1.blk hb6 (by have := HPS.out; omega)
  have HK4 := Aside0.mk k4
  have HK5 := Aside0.mk k5
  have HK6 := Aside0.mk k6
  have HP1 := Aside0.mk hp1
  have HR1 := Aside0.mk (row_only HR.out ho1 (HP.out.row_ne HR.out))
  have HO1 := Aside0.mk ((Only.of_below (b := sb) HWB.out).trans ho1)
  have HB1 := Aside0.mk (HO1.out.below HB0.out HS0.out HB0.out.size)
  have c40 : w1.cell? ⟨w.heap.size, 0, none⟩ = some (.int .i64 fr) := cell_blk k4
  have c41 : w1.cell? ⟨w.heap.size, 1, none⟩ = some (.slice AX l.length cX) := cell_blk k4
  have c52 : w1.cell? ⟨w.heap.size + 1, 2, none⟩ = some (.slice A xs.length c) := cell_blk k5
  have hs1 : W.heap.size ≤ w1.heap.size := ho1.size
  clear hb4 hb5 hb6 k4 k5 k6 hp1 ho1 hWb
  go_wp2_with fail
  refine (rgive fr A c xs HR1.out HB1.out.size hlow hhigh (fun W' h => HROW.out W' (HB1.out.trans (h.mono HB1.out.size))) hc HXS.out (by omega)).mono ?_
  rintro e w2 ⟨v2, rfl, hr2, b2⟩
  replace HK4 := Aside0.mk ((b2.block _ (Array.getElem?_eq_some_iff.1 HK4.out).1).trans HK4.out)
  replace HK5 := Aside0.mk ((b2.block _ (Array.getElem?_eq_some_iff.1 HK5.out).1).trans HK5.out)
  replace HK6 := Aside0.mk ((b2.block _ (Array.getElem?_eq_some_iff.1 HK6.out).1).trans HK6.out)
  replace HP1 := Aside0.mk (HP1.out.below b2)
  replace HO1 := Aside0.mk (HO1.out.trans (.of_below b2))
  have HR2 := Aside0.mk hr2
  have hs2 : w1.heap.size ≤ w2.heap.size := b2.size
  obtain ⟨A2, n2, rfl⟩ := Kd.R_slice hr2
  clear hr2 b2 c40 c41 c52
  have e0 : w2.cell? ⟨w.heap.size + 1 + 1, 0, none⟩ = some (.int .i64 0) := cell_blk HK6.out
  have e1 : w2.cell? ⟨w.heap.size + 1 + 1, 1, none⟩ = some (.slice none 0 0) := cell_blk HK6.out
  have e2 : w2.frozen? ⟨w.heap.size + 1 + 1, 0, none⟩ = false := frozen_blk HK6.out
  have e3 : w2.frozen? ⟨w.heap.size + 1 + 1, 1, none⟩ = false := frozen_blk HK6.out
  have hx6 : w.heap.size + 1 + 1 < w2.heap.size := (Array.getElem?_eq_some_iff.1 HK6.out).1
  go_wp2_with fail
  obtain ⟨s1, s2⟩ := two_set HK6.out (.int .i64 fr) (.slice A2 (turnAll fr l xs true 6).1.length n2)
  have hps := HPS.out
  have s3 := s2.alloc (.cells #[.int .i64 fr, .slice A2 (turnAll fr l xs true 6).1.length n2] 29)
  refine bodyPost_ret (results_ct rfl _ _ (w.heap.size + 1 + 1) 29 #[.int .i64 fr, .slice A2 (turnAll fr l xs true 6).1.length n2] (0, 0) _ rfl (by rw [heap_alloc_old _ _ (by simp [World.setCell]; omega)]; exact s1) Try.underlying29 rfl (by kernel_rfl)) rfl ?_
  exact ⟨_, rfl, HP1.out.step (s3.block pb HP1.out.lt (by omega)) (s3.block sb HP1.out.set.lt (by omega)), row_only HR2.out s3 (Kd.R_ne HR2.out HK6.out (by decide)), HO1.out.forget s3 (by omega)⟩
set_option maxHeartbeats 8000000 in
set_option maxRecDepth 100000 in
theorem do_mark {w0 w : World} {pb sb : Nat} {fr : Int} {v : Value} {l : List Bool} (K N : Int) (A : Option Addr) (c : Nat) (xs : List Int) (hp : PAt w pb sb fr l) (hr : PRow w w0.heap.size v l) (hB : Below w0.heap.size w0 w) (hs : w0.heap.size ≤ sb) (hrow : ∀ W, Below w0.heap.size w0 W → Kd.C (Kd.int .i64) W A xs.length xs) (hc : xs.length ≤ c) (hxs : ∀ x ∈ xs, x ≤ 9223372036854775807) (hx30 : xs.length ≤ 30) (hN : N ≤ 9223372036854775807) (hK : K = 3) :
    Calls Try.prog 10 #[.pointer (some ⟨pb, 0, none⟩), .agg #[.int .i64 fr, v], .agg #[.int .i64 K, .int .i64 N, .slice A xs.length c]] w fun e w' => ∃ v', e = .returned (.tuple #[.agg #[.int .i64 fr, v'], .bool true]) ∧ PAt w' pb sb fr (turnAll fr l xs false 7).1 ∧ PRow w' w0.heap.size v' (turnAll fr l xs false 7).1 ∧ Only sb w w' := by
  subst hK
  obtain ⟨AX, cX, rfl, hcX, hCX⟩ := Kd.R_reads hr
  have HP0 := Aside0.mk hp
  have HR0 := Aside0.mk hr
  have HB0 := Aside0.mk hB
  have HS0 := Aside0.mk hs
  have HROW := Aside0.mk hrow
  have HXS := Aside0.mk hxs
  have hl := hp.len
  have hlow := hp.low
  have hhigh := hp.high
  clear hp hr hB hs hrow hxs hCX
  go_enter Try.func10, Try.ntmps10
  go_wp2_with fail
  obtain ⟨W, hW⟩ : ∃ W, W = ((w.alloc (.cells #[.int .i64 fr, .slice AX l.length cX] 29)).alloc (.cells #[.int .i64 3, .int .i64 N, .slice A xs.length c] 38)).alloc (.cells #[.int .i64 0, .slice none 0 0] 29) := ⟨_, rfl⟩
  have hWb : Below w.heap.size w W := by rw [hW]; exact (((Below.refl _ _).alloc (Nat.le_refl _) _).alloc (by simp) _).alloc (by simp; omega) _
  have hb4 : W.heap[w.heap.size]? = some (.cells #[.int .i64 fr, .slice AX l.length cX] 29 (0, 0)) := by
    rw [hW, heap_alloc_old _ _ (by simp; omega), heap_alloc_old _ _ (by simp)]
    exact heap_alloc_new w _
  have hb5 : W.heap[w.heap.size + 1]? = some (.cells #[.int .i64 3, .int .i64 N, .slice A xs.length c] 38 (0, 0)) := by
    rw [hW, heap_alloc_old _ _ (by simp)]
    have := heap_alloc_new (w.alloc (.cells #[.int .i64 fr, .slice AX l.length cX] 29)) (.cells #[.int .i64 3, .int .i64 N, .slice A xs.length c] 38)
    simpa using this
  have hb6 : W.heap[w.heap.size + 1 + 1]? = some (.cells #[.int .i64 0, .slice none 0 0] 29 (0, 0)) := by
    rw [hW]
    have := heap_alloc_new ((w.alloc (.cells #[.int .i64 fr, .slice AX l.length cX] 29)).alloc (.cells #[.int .i64 3, .int .i64 N, .slice A xs.length c] 38)) (.cells #[.int .i64 0, .slice none 0 0] 29)
    simpa using this
  rw [← hW]
  clear hW
  have HPS := Aside0.mk (show sb < w.heap.size ∧ pb < w.heap.size from ⟨HP0.out.set.lt, HP0.out.lt⟩)
  have hWs := hWb.size
  have hW3 : w.heap.size + 1 + 1 < W.heap.size := (Array.getElem?_eq_some_iff.1 hb6).1
  have HOWN := Aside0.mk (Kd.R_lt HR0.out)
  have HWB := Aside0.mk hWb
  have HP := Aside0.mk (HP0.out.below hWb)
  have HR := Aside0.mk (Kd.R_below HR0.out hWb)
  have HB := Aside0.mk (HB0.out.trans (hWb.mono HB0.out.size))
  refine (mark_any A c xs W HP.out (fun W' h => HROW.out W' (h.below HB.out HS0.out HB.out.size)) hc HXS.out).mono ?_
  rintro e w1 ⟨rfl, hp1, ho1⟩
  have k4 := ho1.blk hb4 (by have := HPS.out; omega)
  have k5 := ho1.blk hb5 (by have := HPS.out; omega)
  have k6 := ho1.blk hb6 (by have := HPS.out; omega)
  have HK4 := Aside0.mk k4
  have HK5 := Aside0.mk k5
  have HK6 := Aside0.mk k6
  have HP1 := Aside0.mk hp1
  have HR1 := Aside0.mk (row_only HR.out ho1 (HP.out.row_ne HR.out))
  have HO1 := Aside0.mk ((Only.of_below (b := sb) HWB.out).trans ho1)
  have HB1 := Aside0.mk (HO1.out.below HB0.out HS0.out HB0.out.size)
  have c40 : w1.cell? ⟨w.heap.size, 0, none⟩ = some (.int .i64 fr) := cell_blk k4
  have c41 : w1.cell? ⟨w.heap.size, 1, none⟩ = some (.slice AX l.length cX) := cell_blk k4
  have c52 : w1.cell? ⟨w.heap.size + 1, 2, none⟩ = some (.slice A xs.length c) := cell_blk k5
  have hs1 : W.heap.size ≤ w1.heap.size := ho1.size
  clear hb4 hb5 hb6 k4 k5 k6 hp1 ho1 hWb
  go_wp2_with fail
  refine (rmark fr A c xs HR1.out HB1.out.size hlow hhigh (fun W' h => HROW.out W' (HB1.out.trans (h.mono HB1.out.size))) hc HXS.out (by omega)).mono ?_
  rintro e w2 ⟨v2, rfl, hr2, b2⟩
  replace HK4 := Aside0.mk ((b2.block _ (Array.getElem?_eq_some_iff.1 HK4.out).1).trans HK4.out)
  replace HK5 := Aside0.mk ((b2.block _ (Array.getElem?_eq_some_iff.1 HK5.out).1).trans HK5.out)
  replace HK6 := Aside0.mk ((b2.block _ (Array.getElem?_eq_some_iff.1 HK6.out).1).trans HK6.out)
  replace HP1 := Aside0.mk (HP1.out.below b2)
  replace HO1 := Aside0.mk (HO1.out.trans (.of_below b2))
  have HR2 := Aside0.mk hr2
  have hs2 : w1.heap.size ≤ w2.heap.size := b2.size
  obtain ⟨A2, n2, rfl⟩ := Kd.R_slice hr2
  clear hr2 b2 c40 c41 c52
  have e0 : w2.cell? ⟨w.heap.size + 1 + 1, 0, none⟩ = some (.int .i64 0) := cell_blk HK6.out
  have e1 : w2.cell? ⟨w.heap.size + 1 + 1, 1, none⟩ = some (.slice none 0 0) := cell_blk HK6.out
  have e2 : w2.frozen? ⟨w.heap.size + 1 + 1, 0, none⟩ = false := frozen_blk HK6.out
  have e3 : w2.frozen? ⟨w.heap.size + 1 + 1, 1, none⟩ = false := frozen_blk HK6.out
  have hx6 : w.heap.size + 1 + 1 < w2.heap.size := (Array.getElem?_eq_some_iff.1 HK6.out).1
  go_wp2_with fail
  obtain ⟨s1, s2⟩ := two_set HK6.out (.int .i64 fr) (.slice A2 (turnAll fr l xs false 7).1.length n2)
  have hps := HPS.out
  have s3 := s2.alloc (.cells #[.int .i64 fr, .slice A2 (turnAll fr l xs false 7).1.length n2] 29)
  refine bodyPost_ret (results_ct rfl _ _ (w.heap.size + 1 + 1) 29 #[.int .i64 fr, .slice A2 (turnAll fr l xs false 7).1.length n2] (0, 0) _ rfl (by rw [heap_alloc_old _ _ (by simp [World.setCell]; omega)]; exact s1) Try.underlying29 rfl (by kernel_rfl)) rfl ?_
  exact ⟨_, rfl, HP1.out.step (s3.block pb HP1.out.lt (by omega)) (s3.block sb HP1.out.set.lt (by omega)), row_only HR2.out s3 (Kd.R_ne HR2.out HK6.out (by decide)), HO1.out.forget s3 (by omega)⟩
set_option maxHeartbeats 8000000 in
set_option maxRecDepth 100000 in
theorem do_has {w0 w : World} {pb sb : Nat} {fr : Int} {v : Value} {l : List Bool} (K N : Int) (A : Option Addr) (c : Nat) (xs : List Int) (hp : PAt w pb sb fr l) (hr : PRow w w0.heap.size v l) (hB : Below w0.heap.size w0 w) (hs : w0.heap.size ≤ sb) (hrow : ∀ W, Below w0.heap.size w0 W → Kd.C (Kd.int .i64) W A xs.length xs) (hc : xs.length ≤ c) (hxs : ∀ x ∈ xs, x ≤ 9223372036854775807) (hx30 : xs.length ≤ 30) (hN : N ≤ 9223372036854775807) (hK1 : K ≠ 1) (hK2 : K ≠ 2) (hK3 : K ≠ 3) :
    Calls Try.prog 10 #[.pointer (some ⟨pb, 0, none⟩), .agg #[.int .i64 fr, v], .agg #[.int .i64 K, .int .i64 N, .slice A xs.length c]] w fun e w' => ∃ v', e = .returned (.tuple #[.agg #[.int .i64 fr, v'], .bool true]) ∧ PAt w' pb sb fr l ∧ PRow w' w0.heap.size v' l ∧ Only sb w w' := by
  skip
  obtain ⟨AX, cX, rfl, hcX, hCX⟩ := Kd.R_reads hr
  have HP0 := Aside0.mk hp
  have HR0 := Aside0.mk hr
  have HB0 := Aside0.mk hB
  have HS0 := Aside0.mk hs
  have HROW := Aside0.mk hrow
  have HXS := Aside0.mk hxs
  have hl := hp.len
  have hlow := hp.low
  have hhigh := hp.high
  clear hp hr hB hs hrow hxs hCX
  have d1 : decide (K = 1) = false := by simpa using hK1
  have d2 : decide (K = 2) = false := by simpa using hK2
  have d3 : decide (K = 3) = false := by simpa using hK3
  have b1 : (K == 1) = false := by simpa using hK1
  have b2 : (K == 2) = false := by simpa using hK2
  have b3 : (K == 3) = false := by simpa using hK3
  go_enter Try.func10, Try.ntmps10
  go_wp2_with fail
  obtain ⟨W, hW⟩ : ∃ W, W = ((w.alloc (.cells #[.int .i64 fr, .slice AX l.length cX] 29)).alloc (.cells #[.int .i64 K, .int .i64 N, .slice A xs.length c] 38)).alloc (.cells #[.int .i64 0, .slice none 0 0] 29) := ⟨_, rfl⟩
  have hWb : Below w.heap.size w W := by rw [hW]; exact (((Below.refl _ _).alloc (Nat.le_refl _) _).alloc (by simp) _).alloc (by simp; omega) _
  have hb4 : W.heap[w.heap.size]? = some (.cells #[.int .i64 fr, .slice AX l.length cX] 29 (0, 0)) := by
    rw [hW, heap_alloc_old _ _ (by simp; omega), heap_alloc_old _ _ (by simp)]
    exact heap_alloc_new w _
  have hb5 : W.heap[w.heap.size + 1]? = some (.cells #[.int .i64 K, .int .i64 N, .slice A xs.length c] 38 (0, 0)) := by
    rw [hW, heap_alloc_old _ _ (by simp)]
    have := heap_alloc_new (w.alloc (.cells #[.int .i64 fr, .slice AX l.length cX] 29)) (.cells #[.int .i64 K, .int .i64 N, .slice A xs.length c] 38)
    simpa using this
  have hb6 : W.heap[w.heap.size + 1 + 1]? = some (.cells #[.int .i64 0, .slice none 0 0] 29 (0, 0)) := by
    rw [hW]
    have := heap_alloc_new ((w.alloc (.cells #[.int .i64 fr, .slice AX l.length cX] 29)).alloc (.cells #[.int .i64 K, .int .i64 N, .slice A xs.length c] 38)) (.cells #[.int .i64 0, .slice none 0 0] 29)
    simpa using this
  rw [← hW]
  clear hW
  have HPS := Aside0.mk (show sb < w.heap.size ∧ pb < w.heap.size from ⟨HP0.out.set.lt, HP0.out.lt⟩)
  have hWs := hWb.size
  have hW3 : w.heap.size + 1 + 1 < W.heap.size := (Array.getElem?_eq_some_iff.1 hb6).1
  have HOWN := Aside0.mk (Kd.R_lt HR0.out)
  have HWB := Aside0.mk hWb
  have HP := Aside0.mk (HP0.out.below hWb)
  have HR := Aside0.mk (Kd.R_below HR0.out hWb)
  have HB := Aside0.mk (HB0.out.trans (hWb.mono HB0.out.size))
  have HK6 := Aside0.mk hb6
  have HK5 := Aside0.mk hb5
  have HK4 := Aside0.mk hb4
  clear hb4 hb5 hb6 hWb
  obtain ⟨B, hB⟩ : ∃ B, B = w.heap.size + 1 + 1 := ⟨_, rfl⟩
  rw [← hB] at HK6
  rw [← hB]
  have HBE := Aside0.mk hB
  have hBl : B < W.heap.size := by omega
  have hps := HPS.out
  have HN1 := Aside0.mk (show B ≠ pb ∧ B ≠ sb by omega)
  clear hB
  obtain ⟨CT, hCT⟩ : ∃ CT : Bool → World → Prop, CT = Late B W 29 #[.int .i64 0, .slice none 0 0] #[.int .i64 fr, .slice AX l.length cX] := ⟨_, rfl⟩
  have hin : ∀ d x, CT d x → Late B W 29 #[.int .i64 0, .slice none 0 0] #[.int .i64 fr, .slice AX l.length cX] d x := fun d x h => by rw [hCT] at h; exact h
  have hout : ∀ d x, Late B W 29 #[.int .i64 0, .slice none 0 0] #[.int .i64 fr, .slice AX l.length cX] d x → CT d x := fun d x h => by rw [hCT]; exact h
  have HIN := Aside0.mk hin
  have HOUT := Aside0.mk hout
  have hb0 : ∀ m : Go.Reg.In (Go.Reg.Cany CT), m.w.cell? ⟨w.heap.size, 0, none⟩ = some (.int .i64 fr) := fun m => by
    obtain ⟨d, hd⟩ := m.h
    exact cell_blk ((HIN.out _ _ hd).only.blk HK4.out (by have := HBE.out; omega))
  have hb1 : ∀ m : Go.Reg.In (Go.Reg.Cany CT), m.w.cell? ⟨w.heap.size, 1, none⟩ = some (.slice AX l.length cX) := fun m => by
    obtain ⟨d, hd⟩ := m.h
    exact cell_blk ((HIN.out _ _ hd).only.blk HK4.out (by have := HBE.out; omega))
  have hb2 : ∀ m : Go.Reg.In (Go.Reg.Cany CT), m.w.cell? ⟨w.heap.size + 1, 1, none⟩ = some (.int .i64 N) := fun m => by
    obtain ⟨d, hd⟩ := m.h
    exact cell_blk ((HIN.out _ _ hd).only.blk HK5.out (by have := HBE.out; omega))
  clear hCT hin hout
  refine Go.Reg.region_t CT [false, false, false, false, false, false, false, false, false, false, true, false] (by kernel_rfl) (by kernel_rfl) (HOUT.out _ _ ⟨.of_below (below_drew1 (Below.refl _ _)), HK6.out⟩) (fun ne => ?_)
  refine Go.Reg.lexT_q 4 _ _ _ _ (by rfl) ?_; simp only [List.take_succ_cons, List.take_zero, List.drop_succ_cons, List.drop_zero]; (repeat (go_big_quiet_step (rfl))); refine wpQuiet_nil ?_
  refine Go.Reg.step_u (.bool (hasP fr l N)) (by rfl) (fun d x hx K hK => ?_) ?_
  · have HL := Aside0.mk (HIN.out _ _ hx)
    go_wp2_with fail
    refine (pool_has_any N _ (HP.out.step (HL.out.only.block pb HP.out.lt (Ne.symm HN1.out.1)) (HL.out.only.block sb HP.out.set.lt (Ne.symm HN1.out.2))) hN).mono ?_
    rintro e w5 ⟨rfl, bb⟩
    go_wp2_with fail
    refine hK.out _ _ (by simp only [Act.put, List.setIfInBounds_toArray, List.set_cons_succ, List.set_cons_zero]) ?_
    exact HOUT.out _ _ (by simp only [List.headD_cons, Bool.or_false]; exact HL.out.below bb)
  simp only [Act.put, List.setIfInBounds_toArray, List.set_cons_succ, List.set_cons_zero, List.tail_cons, List.headD_cons, Bool.or_false]
  refine Go.Reg.lexT_q 3 _ _ _ _ (by rfl) ?_; simp only [List.take_succ_cons, List.take_zero, List.drop_succ_cons, List.drop_zero]; (repeat (go_big_quiet_step (rfl))); refine wpQuiet_nil ?_
  refine Go.Reg.step_u (.bool (hasP fr l N)) (by rfl) (fun d x hx K hK => ?_) ?_
  · have HL := Aside0.mk (HIN.out _ _ hx)
    have HNE := Aside0.mk (Kd.R_ne HR.out HK6.out (by decide))
    go_wp2_with fail
    refine (chantryref11_Has.calls fr AX cX l N _ _ (Kd.R_reads' (row_only HR.out HL.out.only HNE.out)).2.2 hcX (pref_has fr l N hlow hN)).mono ?_
    rintro e w5 ⟨rfl, bb⟩
    go_wp2_with fail
    refine hK.out _ _ (by simp only [Act.put, List.setIfInBounds_toArray, List.set_cons_succ, List.set_cons_zero]) ?_
    exact HOUT.out _ _ (by simp only [List.headD_cons, Bool.or_false]; exact HL.out.below bb)
  simp only [Act.put, List.setIfInBounds_toArray, List.set_cons_succ, List.set_cons_zero, List.tail_cons, List.headD_cons, Bool.or_false]
  refine Go.Reg.lexT_q 1 _ _ _ _ (by rfl) ?_; simp only [List.take_succ_cons, List.take_zero, List.drop_succ_cons, List.drop_zero]; (repeat (go_big_quiet_step (rfl))); refine wpQuiet_nil ?_
  refine Go.Reg.step_u undef (by rfl) (fun d x hx K hK => ?_) ?_
  · have e0 := (HIN.out _ _ hx).c0
    have e1 := (HIN.out _ _ hx).c1
    have e2 := (HIN.out _ _ hx).fro 0
    have e3 := (HIN.out _ _ hx).fro 1
    go_wp2_with fail
    refine hK.out _ _ (by simp only [Act.put]) ?_
    exact HOUT.out _ _ (by simp only [List.headD_cons, Bool.or_true]; exact (HIN.out _ _ hx).set)
  simp only [Act.put, List.setIfInBounds_toArray, List.set_cons_succ, List.set_cons_zero, List.tail_cons, List.headD_cons, Bool.or_true]
  refine Go.Reg.lexT_q 1 _ _ _ _ (by rfl) ?_; simp only [List.take_succ_cons, List.take_zero, List.drop_succ_cons, List.drop_zero]; (repeat (go_big_quiet_step (rfl))); refine wpQuiet_nil ?_
  refine Go.Reg.lexT_nil (fun w3 hw3 => ?_)
  go_wp2_with fail
  have hL := HIN.out _ _ hw3
  have hbe := HBE.out
  have hps := HPS.out
  refine bodyPost_ret (results_ct rfl _ _ B 29 #[.int .i64 fr, .slice AX l.length cX] (0, 0) _ rfl hL.blk Try.underlying29 rfl (by kernel_rfl)) rfl ?_
  exact ⟨_, rfl, HP.out.step (hL.only.block pb HP.out.lt (by omega)) (hL.only.block sb HP.out.set.lt (by omega)), row_only HR.out hL.only (Kd.R_ne HR.out HK6.out (by decide)), (Only.of_below (b := sb) HWB.out).forget hL.only (by omega)⟩
theorem do_any {w0 w : World} {pb sb : Nat} {fr : Int} {v : Value} {l : List Bool} (K N : Int) (A : Option Addr) (c : Nat) (xs : List Int) (hp : PAt w pb sb fr l) (hr : PRow w w0.heap.size v l) (hB : Below w0.heap.size w0 w) (hs : w0.heap.size ≤ sb) (hrow : ∀ W, Below w0.heap.size w0 W → Kd.C (Kd.int .i64) W A xs.length xs) (hc : xs.length ≤ c) (hxs : ∀ x ∈ xs, x ≤ 9223372036854775807) (hx30 : xs.length ≤ 30) (hN : N ≤ 9223372036854775807) :
    Calls Try.prog 10 #[.pointer (some ⟨pb, 0, none⟩), .agg #[.int .i64 fr, v], .agg #[.int .i64 K, .int .i64 N, .slice A xs.length c]] w fun e w' => ∃ v', e = .returned (.tuple #[.agg #[.int .i64 fr, v'], .bool true]) ∧ PAt w' pb sb fr (doL fr l K N xs) ∧ PRow w' w0.heap.size v' (doL fr l K N xs) ∧ Only sb w w' := by
  unfold doL
  by_cases h1 : K = 1
  · rw [if_pos h1]
    exact do_take K N A c xs hp hr hB hs hrow hc hxs hx30 hN h1
  · rw [if_neg h1]
    by_cases h2 : K = 2
    · rw [if_pos h2]
      exact do_give K N A c xs hp hr hB hs hrow hc hxs hx30 hN h2
    · rw [if_neg h2]
      by_cases h3 : K = 3
      · rw [if_pos h3]
        exact do_mark K N A c xs hp hr hB hs hrow hc hxs hx30 hN h3
      · rw [if_neg h3]
        exact do_has K N A c xs hp hr hB hs hrow hc hxs hx30 hN h1 h2 h3
end Bits
end Go.Proofs.Ythmdpmpnlphfdaa
