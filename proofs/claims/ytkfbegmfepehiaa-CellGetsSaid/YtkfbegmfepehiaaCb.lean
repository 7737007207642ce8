/- Walks: cell.Get -/
import Derived.Test.YtkfbegmfepehiaaCa
import Derived.Below
import Derived.Lib.Hide
import Derived.OwnWalk
import Derived.WalkKit
import Derived.KernelRfl
import Derived.RowKit3
import Derived.Deep.LoopGhost
import Derived.Deep.QuietTactic
import Derived.BigQuiet
import Derived.WideLaws
import Derived.Great.BuildSlice
import Derived.Outline
import Derived.Deep.DeepCutAuto
import Derived.WalkSpells
import Derived.RegionTactic
import Derived.BigRegion
import Derived.WalkLawsBesides
import Derived.IntWalk
import Derived.Deep.Slices
import Derived.Lib.AppendZerosOnto
namespace Go.Proofs.Ytkfbegmfepehiaa
set_option linter.unusedVariables false
set_option linter.unusedSimpArgs false
open Go.RowKit Go.Proofs.YtkfbegmfepehiaaW.PrintWords Go.Proofs.YtkfbegmfepehiaaW.PrintLast Go.Proofs.YtkfbegmfepehiaaW.PrintMore
namespace Cell
open Go.Num Go.Crc PCellGets

structure Cel where
  o : Int
  n : Int
  x : Int
  d : List Int
def zeroC : Cel := ⟨0, 0, 0, []⟩
def sizeC (own : List Int) : Int := (unfixP ((own.drop 8).take 2)).1
def rawC (own : List Int) : Cel := ⟨(unfixP (own.take 4)).1, (unfixP ((own.drop 4).take 2)).1, (unfixP ((own.drop 6).take 2)).1, (own.drop 10).take (sizeC own).toNat⟩
def okG (own : List Int) : Bool := decide (sizeC own ≤ 242) && (cellOk (rawC own).o (rawC own).n (rawC own).x (rawC own).d && decide (maxL (own.drop (10 + (sizeC own).toNat)) = 0))
def getP (l : List Int) : Cel × Int := if l.length ≠ 256 then (zeroC, 11) else if (openP l).2 ≠ 0 then (zeroC, (openP l).2) else if okG (openP l).1 = true then (rawC (openP l).1, 0) else (zeroC, 5)
theorem unfix2 (l : List Int) (hl : l.length = 2) (hb : ∀ x ∈ l, 0 ≤ x ∧ x ≤ 255) : unfixP l = (unB l, 0) ∧ 0 ≤ unB l ∧ unB l ≤ 65535 := by
  have h := unB_lt l hb
  rw [hl] at h
  have h2 : (256 : Int) ^ 2 = 65536 := by decide
  rw [h2] at h
  refine ⟨?_, h.1, by omega⟩
  unfold unfixP
  rw [if_neg (by omega), if_neg (by omega)]
theorem take_byte {l : List Int} (hb : ∀ x ∈ l, 0 ≤ x ∧ x ≤ 255) (i k : Nat) : ∀ x ∈ (l.drop i).take k, 0 ≤ x ∧ x ≤ 255 := fun x hx => hb x (List.mem_of_mem_drop (List.mem_of_mem_take hx))
theorem open_err (l : List Int) : (openP l).2 = 0 ∨ (openP l).2 = 12 := by
  unfold openP
  split
  · exact .inr rfl
  · exact .inl rfl
theorem open_len (l : List Int) (h : (openP l).2 = 0) : (openP l).1 = l.take (l.length - 4) ∧ 4 ≤ l.length := by
  unfold openP at *
  split at h
  · cases h
  · rename_i hn
    rw [if_neg hn]
    exact ⟨rfl, by omega⟩
theorem rowN {w : World} {b t : Nat} {x : Int} (hb : w.heap[b]? = some (.cells #[.int .u8 x] t (0, 0))) : Kd.C (Kd.int .u8) w (some ⟨b, 0, none⟩) 1 [x] := by
  refine Kd.C_of_reads (enc := fun x => Value.int .u8 x) (d := (0:Int)) (h1 := fun _ => rfl) ⟨rfl, by decide, fun _ => ⟨_, rfl, fun j hj => ?_⟩⟩
  obtain rfl : j = 0 := by omega
  have : (⟨b, 0, none⟩ : Addr).add 0 = ⟨b, 0, none⟩ := by unfold Addr.add; simp
  rw [this, cell_blk hb]
  rfl

theorem four_set {w : World} {b t : Nat} {a0 a1 a2 a3 : Value} (h : w.heap[b]? = some (.cells #[a0, a1, a2, a3] t (0, 0))) (v0 v1 v2 v3 : Value) : ((((w.setCell ⟨b, 0, none⟩ v0).setCell ⟨b, 1, none⟩ v1).setCell ⟨b, 2, none⟩ v2).setCell ⟨b, 3, none⟩ v3).heap[b]? = some (.cells #[v0, v1, v2, v3] t (0, 0)) := by
  have := blk_set (blk_set (blk_set (blk_set h 0 v0) 1 v1) 2 v2) 3 v3
  rw [this]
  rfl
theorem four_below {w0 w : World} {base b : Nat} (h : Below base w0 w) (hb : base ≤ b) (v0 v1 v2 v3 : Value) : Below base w0 ((((w.setCell ⟨b, 0, none⟩ v0).setCell ⟨b, 1, none⟩ v1).setCell ⟨b, 2, none⟩ v2).setCell ⟨b, 3, none⟩ v3) :=
  (((h.setCell hb v0).setCell hb v1).setCell hb v2).setCell hb v3
theorem unfix_any {w : World} (A : Option Addr) (c : Nat) (l : List Int) (hC : Kd.C (Kd.int .u8) w A l.length l) (hc : l.length ≤ c) (hb : ∀ x ∈ l, 0 ≤ x ∧ x ≤ 255) :
    Calls Try.prog 42 #[.slice A l.length c] w fun e w' => e = .returned (.tuple #[.int .i64 (unfixP l).1, .int .i64 (unfixP l).2]) ∧ Below w.heap.size w w' :=
  (num_Unfix.calls 7 A c l _ _ w hC hc (unfix_plain 0 l hb)).mono (fun _ _ h => ⟨h.1, h.2.below⟩)
theorem R_bnd {w : World} {base t : Nat} {ok : Nat → Prop} {v : Value} {xs : List Int} (h : Kd.R (Kd.int .u8) t w base ok v xs) : Kd.R (Kd.int .u8) t w base (fun k => base ≤ k) v xs := Kd.R_mono (Kd.R_bound h) (fun k hk => hk.2.1)
theorem R_only {w w' : World} {cb base t : Nat} {ok : Nat → Prop} {v : Value} {xs : List Int} (h : Kd.R (Kd.int .u8) t w base ok v xs) (f : Only cb w w') (hb : cb < base) : Kd.R (Kd.int .u8) t w' base ok v xs :=
  Kd.R_mono (Kd.R_step (Kd.R_bound h) (fun k hk hlt => f.block k hlt (by have := hk.2.1; omega))) (fun k hk => hk.1)
theorem R_only' {w w' : World} {cb base q t : Nat} {v : Value} {xs : List Int} (h : Kd.R (Kd.int .u8) t w base (fun k => q ≤ k) v xs) (f : Only cb w w') (hb : cb < q) : Kd.R (Kd.int .u8) t w' base (fun k => q ≤ k) v xs :=
  Kd.R_step h (fun k hk hlt => f.block k hlt (by omega))
/-- What Get keeps: the result's cell, the cursor. -/
structure GS (w0 w : World) (base cb : Nat) (bs : List Int) (bad : Bool) : Prop where
  below : Below w0.heap.size w0 w
  zero : w.heap[w0.heap.size]? = some (.cells #[.int .i64 0, .int .i64 0, .int .i64 0, .slice none 0 0] 24 (0, 0))
  pc : PC w base cb bs bad
  far : w0.heap.size < cb
  cur : cb < w.heap.size
theorem GS.only {w0 w w' : World} {base cb : Nat} {bs bs' : List Int} {bad bad' : Bool} (h : GS w0 w base cb bs bad) (f : Only cb w w') (p : PC w' base cb bs' bad') : GS w0 w' base cb bs' bad' :=
  ⟨h.below.trans (f.below (by have := h.far; omega) h.below.size), (f.block _ (blk_lt h.zero) (by have := h.far; omega)).trans h.zero, p, h.far, Nat.lt_of_lt_of_le h.cur f.size⟩
theorem Only.trans' {b : Nat} {x y z : World} (h : Only b x y) (k : Below x.heap.size y z) : Only b x z :=
  ⟨k.os.trans h.os, k.tape.trans h.tape, k.output.trans h.output, Nat.le_trans h.size k.size, fun q hq hn => (k.block q hq).trans (h.block q hq hn)⟩
theorem GS.end_ {w0 w w' : World} {base cb : Nat} {bs : List Int} {bad : Bool} (h : GS w0 w base cb bs bad) (f : Only cb w w') : Below w0.heap.size w0 w' ∧ w'.heap[w0.heap.size]? = some (.cells #[.int .i64 0, .int .i64 0, .int .i64 0, .slice none 0 0] 24 (0, 0)) :=
  ⟨h.below.trans (f.below (by have := h.far; omega) h.below.size), (f.block _ (blk_lt h.zero) (by have := h.far; omega)).trans h.zero⟩
theorem GS.step {w0 w w' : World} {base cb : Nat} {bs : List Int} {bad : Bool} (h : GS w0 w base cb bs bad) (f : Below w.heap.size w w') : GS w0 w' base cb bs bad :=
  ⟨h.below.trans (f.mono h.below.size), (f.block _ (blk_lt h.zero)).trans h.zero, h.pc.only (b := 0) f, h.far, Nat.lt_of_lt_of_le h.cur f.size⟩
theorem PC.lt {w : World} {base cb : Nat} {bs : List Int} {bad : Bool} (h : PC w base cb bs bad) : cb < w.heap.size ∧ base ≤ cb := by
  unfold PC at h
  cases bad with
  | true => exact ⟨blk_lt h.2.2, h.1⟩
  | false => obtain ⟨_, _, _, _, _, h⟩ := h; exact ⟨blk_lt h.cells, h.cbase⟩

set_option maxHeartbeats 16000000 in
set_option maxRecDepth 100000 in
theorem get_no {w : World} (A : Option Addr) (c : Nat) (l : List Int) (hC : Kd.C (Kd.int .u8) w A l.length l) (hb : ∀ y ∈ l, 0 ≤ y ∧ y ≤ 255) (hc : l.length ≤ c) (hl : l.length ≤ 200000) (hno : l.length ≠ 256 ∨ (openP l).2 ≠ 0) :
    Calls Try.prog 13 #[.slice A l.length c] w fun e w' => e = .returned (.tuple #[.agg #[.int .i64 0, .int .i64 0, .int .i64 0, .slice none 0 0], .int .i64 (getP l).2]) ∧ Below w.heap.size w w' := by
  have HC := Aside0.mk hC
  have HBY := Aside0.mk hb
  clear hC hb
  obtain ⟨r, hr⟩ : ∃ r, r = (getP l).2 := ⟨_, rfl⟩
  rw [← hr]
  by_cases h256 : l.length ≠ 256
  · have HQ := Aside0.mk (show r = 11 by rw [hr]; unfold getP; rw [if_pos h256])
    have hne : ((l.length : Int) != 256) = true := by simp; omega
    clear hr hno
    go_enter Try.func13, Try.ntmps13
    go_wp2_with fail
    refine bodyPost_ret (results_ct rfl _ _ w.heap.size 24 #[.int .i64 0, .int .i64 0, .int .i64 0, .slice none 0 0] (0, 0) _ rfl (heap_alloc_new w _) Try.underlying24 rfl (by kernel_rfl)) rfl ?_
    exact ⟨by rw [HQ.out]; rfl, (Below.refl _ _).alloc (Nat.le_refl _) _⟩
  · have h2 : l.length = 256 := by omega
    have h12 : (openP l).2 = 12 := by
      rcases open_err l with h | h
      · rcases hno with hn | hn
        · exact absurd h2 hn
        · exact absurd h hn
      · exact h
    have HQ := Aside0.mk (show r = 12 by rw [hr]; unfold getP; rw [if_neg h256, if_pos (by rw [h12]; decide), h12])
    have HL := Aside0.mk h2
    have H12 := Aside0.mk h12
    rw [h2] at hc hl ⊢
    clear hr hno h256 h2 h12
    go_enter Try.func13, Try.ntmps13
    go_wp2_with fail
    obtain ⟨W, hW⟩ : ∃ W, W = w.alloc (.cells #[.int .i64 0, .int .i64 0, .int .i64 0, .slice none 0 0] 24) := ⟨_, rfl⟩
    have HB0 := Aside0.mk (show Below w.heap.size w W by rw [hW]; exact (Below.refl _ _).alloc (Nat.le_refl _) _)
    have HBX := Aside0.mk (show W.heap[w.heap.size]? = some (.cells #[.int .i64 0, .int .i64 0, .int .i64 0, .slice none 0 0] 24 (0, 0)) by rw [hW]; exact heap_alloc_new w _)
    rw [← hW]
    clear hW
    have hop := open_any A c l W (Kd.C_below HC.out HB0.out) HBY.out (by rw [HL.out]; omega) (by rw [HL.out]; omega)
    rw [HL.out, H12.out] at hop
    refine hop.mono ?_
    clear hop
    rintro e w1 ⟨v1, rfl, _, b1⟩
    have hbx := (b1.block _ (blk_lt HBX.out)).trans HBX.out
    have HB1 := Aside0.mk (HB0.out.trans (b1.mono HB0.out.size))
    have HX1 := Aside0.mk hbx
    have c0 : w1.cell? ⟨w.heap.size, 0, none⟩ = some (.int .i64 0) := cell_blk hbx
    have c1 : w1.cell? ⟨w.heap.size, 1, none⟩ = some (.int .i64 0) := cell_blk hbx
    have c2 : w1.cell? ⟨w.heap.size, 2, none⟩ = some (.int .i64 0) := cell_blk hbx
    have c3 : w1.cell? ⟨w.heap.size, 3, none⟩ = some (.slice none 0 0) := cell_blk hbx
    have f0 : w1.frozen? ⟨w.heap.size, 0, none⟩ = false := frozen_blk hbx
    have f1 : w1.frozen? ⟨w.heap.size, 1, none⟩ = false := frozen_blk hbx
    have f2 : w1.frozen? ⟨w.heap.size, 2, none⟩ = false := frozen_blk hbx
    have f3 : w1.frozen? ⟨w.heap.size, 3, none⟩ = false := frozen_blk hbx
    clear b1 hbx
    go_wp2_with fail
    refine bodyPost_ret (results_ct rfl _ _ w.heap.size 24 #[.int .i64 0, .int .i64 0, .int .i64 0, .slice none 0 0] (0, 0) _ rfl (four_set HX1.out _ _ _ _) Try.underlying24 rfl (by kernel_rfl)) rfl ?_
    exact ⟨by rw [HQ.out]; rfl, four_below HB1.out (Nat.le_refl _) _ _ _ _⟩

set_option maxHeartbeats 16000000 in
set_option maxRecDepth 100000 in
theorem get_yes {w : World} (A : Option Addr) (c : Nat) (l : List Int) (hC : Kd.C (Kd.int .u8) w A l.length l) (hb : ∀ y ∈ l, 0 ≤ y ∧ y ≤ 255) (hc : l.length ≤ c) (h256 : l.length = 256) (h0 : (openP l).2 = 0) :
    Calls Try.prog 13 #[.slice A l.length c] w fun e w' => ∃ v, e = .returned (.tuple #[.agg #[.int .i64 (getP l).1.o, .int .i64 (getP l).1.n, .int .i64 (getP l).1.x, v], .int .i64 (getP l).2]) ∧ Kd.R (Kd.int .u8) 5 w' w.heap.size (fun _ => True) v (getP l).1.d ∧ Below w.heap.size w w' := by
  have HC := Aside0.mk hC
  have HBY := Aside0.mk hb
  have HL := Aside0.mk h256
  have H0 := Aside0.mk h0
  obtain ⟨ho1, _⟩ := open_len l h0
  obtain ⟨own, hown⟩ : ∃ own, own = (openP l).1 := ⟨_, rfl⟩
  have hlo : own.length = 252 := by rw [hown, ho1, List.length_take, h256]; omega
  have hob : ∀ y ∈ own, 0 ≤ y ∧ y ≤ 255 := fun y hy => hb y (by rw [hown, ho1] at hy; exact List.mem_of_mem_take hy)
  have HLO := Aside0.mk hlo
  have HOB := Aside0.mk hob
  obtain ⟨r, hr⟩ : ∃ r, r = getP l := ⟨_, rfl⟩
  rw [← hr]
  have HQ := Aside0.mk (show r = if okG own = true then (rawC own, 0) else (zeroC, 5) by rw [hr, hown]; unfold getP; rw [if_neg (by omega), if_neg (by omega)])
  have HOWN := Aside0.mk hown
  obtain ⟨o, ho⟩ : ∃ o, o = (unfixP (own.take 4)).1 := ⟨_, rfl⟩
  obtain ⟨n, hn⟩ : ∃ o, o = (unfixP ((own.drop 4).take 2)).1 := ⟨_, rfl⟩
  obtain ⟨x, hx⟩ : ∃ o, o = (unfixP ((own.drop 6).take 2)).1 := ⟨_, rfl⟩
  have hsz := unfix2 ((own.drop 8).take 2) (by rw [List.length_take, List.length_drop, hlo]; omega) (take_byte hob 8 2)
  obtain ⟨sn, hs⟩ : ∃ sn : Nat, (sn : Int) = (unfixP ((own.drop 8).take 2)).1 := ⟨(unB ((own.drop 8).take 2)).toNat, by rw [hsz.1]; omega⟩
  have hs6 : sn ≤ 65535 := by rw [hsz.1] at hs; omega
  have Ho := Aside0.mk ho
  have Hn := Aside0.mk hn
  have Hx := Aside0.mk hx
  have Hs := Aside0.mk hs
  have HS6 := Aside0.mk hs6
  have HSZ := Aside0.mk (show sizeC own = (sn : Int) from hs.symm)
  have HRAW := Aside0.mk (show rawC own = ⟨o, n, x, (own.drop 10).take sn⟩ by unfold rawC; rw [← ho, ← hn, ← hx, show sizeC own = (sn : Int) from hs.symm, Int.toNat_natCast])
  clear hC hb h0 ho1 hown hlo hob hr ho hn hx hsz hs hs6
  rw [h256] at hc ⊢
  clear h256
  go_enter Try.func13, Try.ntmps13
  go_wp2_with fail
  obtain ⟨W, hW⟩ : ∃ W, W = w.alloc (.cells #[.int .i64 0, .int .i64 0, .int .i64 0, .slice none 0 0] 24) := ⟨_, rfl⟩
  have HB0 := Aside0.mk (show Below w.heap.size w W by rw [hW]; exact (Below.refl _ _).alloc (Nat.le_refl _) _)
  have HBX := Aside0.mk (show W.heap[w.heap.size]? = some (.cells #[.int .i64 0, .int .i64 0, .int .i64 0, .slice none 0 0] 24 (0, 0)) by rw [hW]; exact heap_alloc_new w _)
  rw [← hW]
  clear hW
  have hop := open_any A c l W (Kd.C_below HC.out HB0.out) HBY.out (by rw [HL.out]; omega) (by rw [HL.out]; omega)
  rw [HL.out, H0.out, ← HOWN.out] at hop
  refine hop.mono ?_
  clear hop
  rintro e w1 ⟨v1, rfl, hr1, b1⟩
  obtain ⟨_, ho1⟩ := Kd.own_of_R hr1
  rcases ho1 with ⟨_, hz⟩ | ⟨g, cap, cur, rfl, _⟩
  · have := HLO.out; rw [hz] at this; cases this
  have HX1 := Aside0.mk ((b1.block _ (blk_lt HBX.out)).trans HBX.out)
  have HB1 := Aside0.mk (HB0.out.trans (b1.mono HB0.out.size))
  have HR1 := Aside0.mk (row_at hr1)
  clear hr1 b1
  rw [HLO.out]
  go_wp2_with fail
  have hf := from_any ⟨g, 0, none⟩ cap own HR1.out (by rw [HLO.out]; omega)
  rw [HLO.out] at hf
  refine hf.mono ?_
  clear hf
  rintro e w2 ⟨cb, rfl, hp, b2⟩
  have HG := Aside0.mk (show GS w w2 w1.heap.size cb own false from ⟨HB1.out.trans (b2.mono HB1.out.size), (b2.block _ (blk_lt HX1.out)).trans HX1.out, hp, by have := hp.lt.2; have := blk_lt HX1.out; omega, hp.lt.1⟩)
  clear hp b2 HX1 HR1
  go_wp2_with fail
  have ht := take_yes HG.out.pc 4 (by rw [show own.length = 252 by exact HLO.out]; omega)
  rw [show ((4 : Nat) : Int) = 4 from rfl] at ht
  refine ht.mono ?_
  clear ht
  rintro e w3a ⟨v3, rfl, hr, hp, ho⟩
  obtain ⟨A3, c3, rfl⟩ := Kd.R_slice hr
  have htl : (own.take 4).length = 4 := by rw [List.length_take, show own.length = 252 by exact HLO.out]; omega
  have HC3 := Aside0.mk (row_at hr)
  have HT3 := Aside0.mk htl
  have HM3 := Aside0.mk (Kd.R_reads' hr).2.1
  have hg := HG.out.only ho hp
  
  clear HG hp ho hr
  have HG := Aside0.mk hg
  clear hg
  rw [htl]
  clear htl
  go_wp2_with fail
  have hu := unfix_any A3 c3 (own.take 4) HC3.out HM3.out (fun x hx => HOB.out x (List.mem_of_mem_take hx))
  rw [HT3.out, ← Ho.out] at hu
  obtain ⟨q3, hq⟩ : ∃ q, q = (unfixP (own.take 4)).2 := ⟨_, rfl⟩
  rw [← hq] at hu
  refine hu.mono ?_
  clear hu hq HC3 HT3 HM3
  rintro e w3 ⟨rfl, b⟩
  have hg := HG.out.step b
  clear HG b
  have HG := Aside0.mk hg
  clear hg
  go_wp2_with fail
  have ht := take_yes HG.out.pc 2 (by rw [show (own.drop 4).length = 248 by rw [List.length_drop, HLO.out]]; omega)
  rw [show ((2 : Nat) : Int) = 2 from rfl] at ht
  refine ht.mono ?_
  clear ht
  rintro e w4a ⟨v4, rfl, hr, hp, ho⟩
  obtain ⟨A4, c4, rfl⟩ := Kd.R_slice hr
  have htl : ((own.drop 4).take 2).length = 2 := by rw [List.length_take, show (own.drop 4).length = 248 by rw [List.length_drop, HLO.out]]; omega
  have HC4 := Aside0.mk (row_at hr)
  have HT4 := Aside0.mk htl
  have HM4 := Aside0.mk (Kd.R_reads' hr).2.1
  have hg := HG.out.only ho hp
  rw [List.drop_drop] at hg
  clear HG hp ho hr
  have HG := Aside0.mk hg
  clear hg
  rw [htl]
  clear htl
  go_wp2_with fail
  have hu := unfix_any A4 c4 ((own.drop 4).take 2) HC4.out HM4.out (take_byte HOB.out 4 2)
  rw [HT4.out, ← Hn.out] at hu
  obtain ⟨q4, hq⟩ : ∃ q, q = (unfixP ((own.drop 4).take 2)).2 := ⟨_, rfl⟩
  rw [← hq] at hu
  refine hu.mono ?_
  clear hu hq HC4 HT4 HM4
  rintro e w4 ⟨rfl, b⟩
  have hg := HG.out.step b
  clear HG b
  have HG := Aside0.mk hg
  clear hg
  go_wp2_with fail
  have ht := take_yes HG.out.pc 2 (by rw [show (own.drop 6).length = 246 by rw [List.length_drop, HLO.out]]; omega)
  rw [show ((2 : Nat) : Int) = 2 from rfl] at ht
  refine ht.mono ?_
  clear ht
  rintro e w5a ⟨v5, rfl, hr, hp, ho⟩
  obtain ⟨A5, c5, rfl⟩ := Kd.R_slice hr
  have htl : ((own.drop 6).take 2).length = 2 := by rw [List.length_take, show (own.drop 6).length = 246 by rw [List.length_drop, HLO.out]]; omega
  have HC5 := Aside0.mk (row_at hr)
  have HT5 := Aside0.mk htl
  have HM5 := Aside0.mk (Kd.R_reads' hr).2.1
  have hg := HG.out.only ho hp
  rw [List.drop_drop] at hg
  clear HG hp ho hr
  have HG := Aside0.mk hg
  clear hg
  rw [htl]
  clear htl
  go_wp2_with fail
  have hu := unfix_any A5 c5 ((own.drop 6).take 2) HC5.out HM5.out (take_byte HOB.out 6 2)
  rw [HT5.out, ← Hx.out] at hu
  obtain ⟨q5, hq⟩ : ∃ q, q = (unfixP ((own.drop 6).take 2)).2 := ⟨_, rfl⟩
  rw [← hq] at hu
  refine hu.mono ?_
  clear hu hq HC5 HT5 HM5
  rintro e w5 ⟨rfl, b⟩
  have hg := HG.out.step b
  clear HG b
  have HG := Aside0.mk hg
  clear hg
  go_wp2_with fail
  have ht := take_yes HG.out.pc 2 (by rw [show (own.drop 8).length = 244 by rw [List.length_drop, HLO.out]]; omega)
  rw [show ((2 : Nat) : Int) = 2 from rfl] at ht
  refine ht.mono ?_
  clear ht
  rintro e w6a ⟨v6, rfl, hr, hp, ho⟩
  obtain ⟨A6, c6, rfl⟩ := Kd.R_slice hr
  have htl : ((own.drop 8).take 2).length = 2 := by rw [List.length_take, show (own.drop 8).length = 244 by rw [List.length_drop, HLO.out]]; omega
  have HC6 := Aside0.mk (row_at hr)
  have HT6 := Aside0.mk htl
  have HM6 := Aside0.mk (Kd.R_reads' hr).2.1
  have hg := HG.out.only ho hp
  rw [List.drop_drop] at hg
  clear HG hp ho hr
  have HG := Aside0.mk hg
  clear hg
  rw [htl]
  clear htl
  go_wp2_with fail
  have hu := unfix_any A6 c6 ((own.drop 8).take 2) HC6.out HM6.out (take_byte HOB.out 8 2)
  rw [HT6.out, ← Hs.out] at hu
  obtain ⟨q6, hq⟩ : ∃ q, q = (unfixP ((own.drop 8).take 2)).2 := ⟨_, rfl⟩
  rw [← hq] at hu
  refine hu.mono ?_
  clear hu hq HC6 HT6 HM6
  rintro e w6 ⟨rfl, b⟩
  have hg := HG.out.step b
  clear HG b
  have HG := Aside0.mk hg
  clear hg
  go_wp2_with fail
  by_cases hk : sn ≤ 242
  · have HK := Aside0.mk hk
    obtain ⟨d, hd⟩ : ∃ d, d = (own.drop 10).take sn := ⟨_, rfl⟩
    obtain ⟨rs, hrs⟩ : ∃ rs, rs = (own.drop 10).drop sn := ⟨_, rfl⟩
    have hdl : d.length = sn := by rw [hd, List.length_take, List.length_drop, HLO.out]; omega
    have HDL := Aside0.mk hdl
    have HD := Aside0.mk hd
    have HRS := Aside0.mk hrs
    have ht := take_yes (show PC w6 w1.heap.size cb (own.drop 10) false from HG.out.pc) sn (by rw [List.length_drop, HLO.out]; omega)
    rw [← hd, ← hrs] at ht
    clear hd hrs hk hdl
    refine ht.mono ?_
    clear ht
    rintro e w7 ⟨v7, rfl, hr, hp, ho⟩
    have HC6 := Aside0.mk HG.out.cur
    have HR7 := Aside0.mk (Kd.R_lower (base' := w1.heap.size) (R_bnd hr) (by have := HG.out.pc.lt; omega))
    have hg := HG.out.only ho hp
    clear HG hp ho hr
    have HG := Aside0.mk hg
    clear hg
    obtain ⟨A7, c7, rfl⟩ := Kd.R_slice HR7.out
    go_wp2_with fail
    obtain ⟨w8, hw8⟩ : ∃ w8, w8 = w7.alloc (.cells #[.int .i64 o, .int .i64 n, .int .i64 x, .slice A7 d.length c7] 24) := ⟨_, rfl⟩
    have hb8 : Below w7.heap.size w7 w8 := by rw [hw8]; exact (Below.refl _ _).alloc (Nat.le_refl _) _
    have hx8 : w8.heap[w7.heap.size]? = some (.cells #[.int .i64 o, .int .i64 n, .int .i64 x, .slice A7 d.length c7] 24 (0, 0)) := by rw [hw8]; exact heap_alloc_new w7 _
    have hcx := HG.out.cur
    rw [← hw8]
    obtain ⟨xb, hxb⟩ : ∃ xb, xb = w7.heap.size := ⟨_, rfl⟩
    rw [← hxb] at hx8 hcx ⊢
    have HXB := Aside0.mk hx8
    have HCX := Aside0.mk hcx
    have HR8 := Aside0.mk (Kd.R_below HR7.out hb8)
    have hg := HG.out.step hb8
    clear HG hb8 hx8 hcx hw8 hxb
    have HG := Aside0.mk hg
    clear hg
    refine (bad_any HG.out.pc).mono ?_
    rintro e w8' ⟨rfl, hw8'⟩
    obtain rfl : w8' = w8 := hw8'
    have c0 : w8'.cell? ⟨xb, 0, none⟩ = some (.int .i64 o) := cell_blk HXB.out
    have c1 : w8'.cell? ⟨xb, 1, none⟩ = some (.int .i64 n) := cell_blk HXB.out
    have c2 : w8'.cell? ⟨xb, 2, none⟩ = some (.int .i64 x) := cell_blk HXB.out
    have c3 : w8'.cell? ⟨xb, 3, none⟩ = some (.slice A7 d.length c7) := cell_blk HXB.out
    go_wp2_with fail
    have hm := cell_may.calls o n x A7 c7 d (cellOk o n x d) w8' (row_at HR8.out) (Kd.R_reads' HR8.out).2.1 (may_plain o n x d)
    by_cases hok : cellOk o n x d = true
    · rw [hok] at hm
      refine hm.mono ?_
      clear hm c0 c1 c2 c3
      rintro e w9 ⟨rfl, b9⟩
      have HOK := Aside0.mk hok
      have HX9 := Aside0.mk ((b9.block _ (blk_lt HXB.out)).trans HXB.out)
      have HR9 := Aside0.mk (Kd.R_below HR8.out b9)
      have hg := HG.out.step b9
      clear HG b9 hok HXB HR8 HR7
      have HG := Aside0.mk hg
      clear hg
      go_wp2_with fail
      refine (left_any HG.out.pc).mono ?_
      rintro e w9' ⟨rfl, hw9'⟩
      obtain rfl : w9' = w9 := hw9'
      go_wp2_with fail
      refine (take_yes HG.out.pc rs.length (Nat.le_refl _)).mono ?_
      rintro e w10 ⟨v10, rfl, hr, hp, ho⟩
      rw [List.take_length] at hr
      have HO10 := Aside0.mk ho
      have HV10 := Aside0.mk hr
      clear hr hp ho
      obtain ⟨A10, c10, rfl⟩ := Kd.R_slice HV10.out
      go_wp2_with ((with_reducible refine gate_builtin (b := .append) (xs := #[.tmp 73, .tmp 74]) rfl ?_); at_builtin; refine Hid.out ?_)
      refine Lib.hid ?_
      obtain ⟨w11, hw11⟩ : ∃ w11, w11 = w10.alloc (.cells #[.int .u8 0] 5) := ⟨_, rfl⟩
      have hb11 : Below w10.heap.size w10 w11 := by rw [hw11]; exact (Below.refl _ _).alloc (Nat.le_refl _) _
      have hn11 : w11.heap[w10.heap.size]? = some (.cells #[.int .u8 0] 5 (0, 0)) := by rw [hw11]; exact heap_alloc_new w10 _
      rw [← hw11]
      clear hw11
      have HO11 := Aside0.mk (HO10.out.trans (Only.of_below hb11))
      have HV11 := Aside0.mk (Kd.R_below HV10.out hb11)
      have HN11 := Aside0.mk (rowN hn11)
      clear HO10 HV10 hb11 hn11
      have HRL := Aside0.mk (show rs.length ≤ 252 by rw [HRS.out, List.length_drop, List.length_drop, HLO.out]; omega)
      have HRB := Aside0.mk (show ∀ y ∈ rs ++ [0], 0 ≤ y ∧ y ≤ 255 from fun y hy => by
        rcases List.mem_append.1 hy with h | h
        · exact HOB.out y (by rw [HRS.out] at h; exact List.mem_of_mem_drop (List.mem_of_mem_drop h))
        · rw [List.mem_singleton.1 h]; omega)
      refine wpList_step (fun K' hK => ?_)
      refine Kd.R_append_rows_step (Kd.int .u8) (Rr := (Kd.int .u8).K w11) (w0 := w11) w9'.heap.size (by rfl) (.tmp 73) (.tmp 74) 22 5 (.int .u8 0) 1 rfl Try.underlying22 infoU8 rfl (by decide) (by omega) (.slice A10 rs.length c10) rs [0] _ _ _ (fun _ => True) (fun _ => False) rfl rfl HV11.out HN11.out (fun x cs h => h) (fun _ hk => hk.elim) (fun _ _ => trivial) (Below.refl _ _) HO11.out.size (by have := HRL.out; omega) ?_
      intro v12 w12 hr12 hb12 _ _
      refine hK _ _ ?_
      clear hK K'
      have HO12 := Aside0.mk (show Only cb w9' w12 from HO11.out.trans' hb12)
      have HV12 := Aside0.mk hr12
      obtain ⟨A12, c12, rfl⟩ := Kd.R_slice hr12
      clear hr12 hb12 HO11 HV11 HN11
      have hln : (rs ++ [0]).length = rs.length + 1 := by rw [List.length_append]; rfl
      have hmx := max_any A12 c12 (rs ++ [0]) (row_at HV12.out) HRB.out (by rw [hln]; omega) (by rw [hln]; have := HRL.out; omega)
      obtain ⟨ln, hlnn⟩ : ∃ ln, ln = (rs ++ [0]).length := ⟨_, rfl⟩
      obtain ⟨m, hm⟩ : ∃ m, m = maxL (rs ++ [0]) := ⟨_, rfl⟩
      have hmr := maxL_range (rs ++ [0]) HRB.out
      rw [← hlnn, ← hm] at hmx
      rw [← hm] at hmr
      rw [← hlnn]
      have HM := Aside0.mk (show m = maxL (own.drop (10 + sn)) by
        rw [hm, maxL_snoc _ _ (by omega), HRS.out, List.drop_drop]
        have := (maxL_range (own.drop (10 + sn)) (fun y hy => HOB.out y (List.mem_of_mem_drop hy))).1
        first
        | (rw [Nat.add_comm sn 10]; omega)
        | omega)
      have HX12 := Aside0.mk ((HO12.out.block _ (blk_lt HX9.out) (by have := HCX.out; omega)).trans HX9.out)
      have HR12 := Aside0.mk (R_only' HR9.out HO12.out HC6.out)
      have HBW := Aside0.mk (HG.out.end_ HO12.out).1
      have HZ := Aside0.mk (HG.out.end_ HO12.out).2
      clear hm hln hlnn HX9 HR9 HV12
      by_cases h0 : m = 0
      · subst h0
        go_wp2_with fail
        refine hmx.mono ?_
        clear hmx
        rintro e w13 ⟨rfl, hw13⟩
        obtain rfl : w13 = w12 := hw13
        have z0 : w13.cell? ⟨w.heap.size, 0, none⟩ = some (.int .i64 0) := cell_blk HZ.out
        have z1 : w13.cell? ⟨w.heap.size, 1, none⟩ = some (.int .i64 0) := cell_blk HZ.out
        have z2 : w13.cell? ⟨w.heap.size, 2, none⟩ = some (.int .i64 0) := cell_blk HZ.out
        have z3 : w13.cell? ⟨w.heap.size, 3, none⟩ = some (.slice none 0 0) := cell_blk HZ.out
        have f0 : w13.frozen? ⟨w.heap.size, 0, none⟩ = false := frozen_blk HZ.out
        have f1 : w13.frozen? ⟨w.heap.size, 1, none⟩ = false := frozen_blk HZ.out
        have f2 : w13.frozen? ⟨w.heap.size, 2, none⟩ = false := frozen_blk HZ.out
        have f3 : w13.frozen? ⟨w.heap.size, 3, none⟩ = false := frozen_blk HZ.out
        have x0 : w13.cell? ⟨xb, 0, none⟩ = some (.int .i64 o) := cell_blk HX12.out
        have x1 : w13.cell? ⟨xb, 1, none⟩ = some (.int .i64 n) := cell_blk HX12.out
        have x2 : w13.cell? ⟨xb, 2, none⟩ = some (.int .i64 x) := cell_blk HX12.out
        have x3 : w13.cell? ⟨xb, 3, none⟩ = some (.slice A7 d.length c7) := cell_blk HX12.out
        go_wp2_with fail
        refine bodyPost_ret (results_ct rfl _ _ w.heap.size 24 #[.int .i64 o, .int .i64 n, .int .i64 x, .slice A7 d.length c7] (0, 0) _ rfl (four_set HZ.out _ _ _ _) Try.underlying24 rfl (by kernel_rfl)) rfl ?_
        have hr5 : r = (⟨o, n, x, d⟩, 0) := by
          rw [HQ.out, if_pos]
          · rw [HRAW.out, HD.out]
          · unfold okG
            rw [HRAW.out, HSZ.out, ← HD.out, HOK.out, Int.toNat_natCast, ← HM.out, decide_eq_true (by have := HK.out; omega)]
            rfl
        have hf : ∀ k, w6.heap.size ≤ k → k ≠ w.heap.size := fun k hk => by have := HG.out.far; have := HC6.out; omega
        exact ⟨_, by rw [hr5]; rfl, by rw [hr5]; exact Kd.R_mono (Kd.R_lower (Kd.R_far (p := ⟨w.heap.size, 3, none⟩) (Kd.R_far (p := ⟨w.heap.size, 2, none⟩) (Kd.R_far (p := ⟨w.heap.size, 1, none⟩) (Kd.R_far (p := ⟨w.heap.size, 0, none⟩) HR12.out hf _) hf _) hf _) hf _) HB1.out.size) (fun _ _ => trivial), four_below HBW.out (Nat.le_refl _) _ _ _ _⟩
      · have hgt : 0 < m := by omega
        have hgd : decide (0 < m) = true := decide_eq_true hgt
        go_wp2_with fail
        refine hmx.mono ?_
        clear hmx
        rintro e w13 ⟨rfl, hw13⟩
        obtain rfl : w13 = w12 := hw13
        have z0 : w13.cell? ⟨w.heap.size, 0, none⟩ = some (.int .i64 0) := cell_blk HZ.out
        have z1 : w13.cell? ⟨w.heap.size, 1, none⟩ = some (.int .i64 0) := cell_blk HZ.out
        have z2 : w13.cell? ⟨w.heap.size, 2, none⟩ = some (.int .i64 0) := cell_blk HZ.out
        have z3 : w13.cell? ⟨w.heap.size, 3, none⟩ = some (.slice none 0 0) := cell_blk HZ.out
        have f0 : w13.frozen? ⟨w.heap.size, 0, none⟩ = false := frozen_blk HZ.out
        have f1 : w13.frozen? ⟨w.heap.size, 1, none⟩ = false := frozen_blk HZ.out
        have f2 : w13.frozen? ⟨w.heap.size, 2, none⟩ = false := frozen_blk HZ.out
        have f3 : w13.frozen? ⟨w.heap.size, 3, none⟩ = false := frozen_blk HZ.out
        have HR5 := Aside0.mk (show r = (zeroC, 5) by rw [HQ.out, if_neg]; unfold okG; rw [HSZ.out, Int.toNat_natCast, ← HM.out, decide_eq_false h0, Bool.and_false, Bool.and_false]; decide)
        go_wp2_with fail
        refine bodyPost_ret (results_ct rfl _ _ w.heap.size 24 #[.int .i64 0, .int .i64 0, .int .i64 0, .slice none 0 0] (0, 0) _ rfl (four_set HZ.out _ _ _ _) Try.underlying24 rfl (by kernel_rfl)) rfl ?_
        exact ⟨_, by rw [HR5.out]; rfl, by rw [HR5.out]; exact Kd.R_nil _ _ _ _ _, four_below HBW.out (Nat.le_refl _) _ _ _ _⟩
    · have hok' : cellOk o n x d = false := by simpa using hok
      rw [hok'] at hm
      refine hm.mono ?_
      clear hm c0 c1 c2 c3
      rintro e w9 ⟨rfl, b9⟩
      have HR5 := Aside0.mk (show r = (zeroC, 5) by rw [HQ.out, if_neg]; unfold okG; rw [HRAW.out, HSZ.out, ← HD.out, hok', Bool.false_and, Bool.and_false]; decide)
      have hg := HG.out.step b9
      clear HG b9 hok hok' HXB HR8 HR7
      have HG := Aside0.mk hg
      clear hg
      have hz := HG.out.zero
      have z0 : w9.cell? ⟨w.heap.size, 0, none⟩ = some (.int .i64 0) := cell_blk hz
      have z1 : w9.cell? ⟨w.heap.size, 1, none⟩ = some (.int .i64 0) := cell_blk hz
      have z2 : w9.cell? ⟨w.heap.size, 2, none⟩ = some (.int .i64 0) := cell_blk hz
      have z3 : w9.cell? ⟨w.heap.size, 3, none⟩ = some (.slice none 0 0) := cell_blk hz
      have f0 : w9.frozen? ⟨w.heap.size, 0, none⟩ = false := frozen_blk hz
      have f1 : w9.frozen? ⟨w.heap.size, 1, none⟩ = false := frozen_blk hz
      have f2 : w9.frozen? ⟨w.heap.size, 2, none⟩ = false := frozen_blk hz
      have f3 : w9.frozen? ⟨w.heap.size, 3, none⟩ = false := frozen_blk hz
      clear hz
      go_wp2_with fail
      refine bodyPost_ret (results_ct rfl _ _ w.heap.size 24 #[.int .i64 0, .int .i64 0, .int .i64 0, .slice none 0 0] (0, 0) _ rfl (four_set HG.out.zero _ _ _ _) Try.underlying24 rfl (by kernel_rfl)) rfl ?_
      exact ⟨_, by rw [HR5.out]; rfl, by rw [HR5.out]; exact Kd.R_nil _ _ _ _ _, four_below HG.out.below (Nat.le_refl _) _ _ _ _⟩
  · have ht := take_no (show PC w6 w1.heap.size cb (own.drop 10) false from HG.out.pc) (sn : Int) (by
      unfold takeOk
      rw [decide_eq_false (p := (sn : Int) ≤ ((own.drop 10).length : Int)) (by rw [List.length_drop, HLO.out]; omega), Bool.and_false, Bool.and_false])
    refine ht.mono ?_
    clear ht
    rintro e w7 ⟨rfl, hp, ho⟩
    have hg := HG.out.only ho hp
    clear HG hp ho
    have HG := Aside0.mk hg
    clear hg
    go_wp2_with fail
    obtain ⟨w8, hw8⟩ : ∃ w8, w8 = w7.alloc (.cells #[.int .i64 o, .int .i64 n, .int .i64 x, .slice none 0 0] 24) := ⟨_, rfl⟩
    have hb8 : Below w7.heap.size w7 w8 := by rw [hw8]; exact (Below.refl _ _).alloc (Nat.le_refl _) _
    rw [← hw8]
    clear hw8
    have hg := HG.out.step hb8
    clear HG hb8
    have HG := Aside0.mk hg
    clear hg
    refine (bad_any HG.out.pc).mono ?_
    rintro e w8' ⟨rfl, hw8'⟩
    obtain rfl : w8' = w8 := hw8'
    have HR5 := Aside0.mk (show r = (zeroC, 5) by rw [HQ.out, if_neg]; unfold okG; rw [HSZ.out, decide_eq_false (by omega), Bool.false_and]; decide)
    have z0 : w8'.cell? ⟨w.heap.size, 0, none⟩ = some (.int .i64 0) := cell_blk HG.out.zero
    have z1 : w8'.cell? ⟨w.heap.size, 1, none⟩ = some (.int .i64 0) := cell_blk HG.out.zero
    have z2 : w8'.cell? ⟨w.heap.size, 2, none⟩ = some (.int .i64 0) := cell_blk HG.out.zero
    have z3 : w8'.cell? ⟨w.heap.size, 3, none⟩ = some (.slice none 0 0) := cell_blk HG.out.zero
    have f0 : w8'.frozen? ⟨w.heap.size, 0, none⟩ = false := frozen_blk HG.out.zero
    have f1 : w8'.frozen? ⟨w.heap.size, 1, none⟩ = false := frozen_blk HG.out.zero
    have f2 : w8'.frozen? ⟨w.heap.size, 2, none⟩ = false := frozen_blk HG.out.zero
    have f3 : w8'.frozen? ⟨w.heap.size, 3, none⟩ = false := frozen_blk HG.out.zero
    go_wp2_with fail
    refine bodyPost_ret (results_ct rfl _ _ w.heap.size 24 #[.int .i64 0, .int .i64 0, .int .i64 0, .slice none 0 0] (0, 0) _ rfl (four_set HG.out.zero _ _ _ _) Try.underlying24 rfl (by kernel_rfl)) rfl ?_
    exact ⟨_, by rw [HR5.out]; rfl, by rw [HR5.out]; exact Kd.R_nil _ _ _ _ _, four_below HG.out.below (Nat.le_refl _) _ _ _ _⟩
end Cell
end Go.Proofs.Ytkfbegmfepehiaa
