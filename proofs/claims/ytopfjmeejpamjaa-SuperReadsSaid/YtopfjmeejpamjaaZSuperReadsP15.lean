/- Part 16 of the proof of SuperReads: lemmas alone. -/
import Derived.Test.YtopfjmeejpamjaaZSuperReadsP14
import Derived.Test.YtopfjmeejpamjaaZSuperReadsP3
import Derived.Deep.Cut
import Derived.Deep.CutRange
import Derived.Test.YtopfjmeejpamjaaZSuperReadsP7
import Derived.KernelRfl
import Derived.Test.YtopfjmeejpamjaaZSuperReadsP2
section
namespace Go.Proofs.Ytopfjmeejpamjaa
set_option linter.unusedVariables false
set_option linter.unusedSimpArgs false
set_option linter.ambiguousOpen false
open Go.RowKit Go.Proofs.YtopfjmeejpamjaaW.PrintWords Go.Proofs.YtopfjmeejpamjaaW.PrintLast Go.Proofs.YtopfjmeejpamjaaW.PrintMore
namespace Sect
open Go.Num Go.Crc Go.Proofs.Ytopfjmeejpamjaa.Cell
structure Sec where
  k : Int
  e : Int
  n : Int
  l : Int
  d : List Int
def zeroS : Sec := ⟨0, 0, 0, 0, []⟩
def sizeS (own : List Int) : Int := numP ((own.drop 1).take 1)
def rawS (own : List Int) : Sec := ⟨numP ((own.drop 0).take 1), numP ((own.drop 4).take 4), numP ((own.drop 8).take 4), numP ((own.drop 2).take 2), (own.drop 12).take (sizeS own).toNat⟩
def okS (own : List Int) : Bool := decide (sizeS own ≤ 48) && (secOk (rawS own).k (rawS own).e (rawS own).n (rawS own).l (rawS own).d && decide (maxL (own.drop (12 + (sizeS own).toNat)) = 0))
def getS (l : List Int) : Sec × Int := if l.length ≠ 64 then (zeroS, 11) else if (openP l).2 ≠ 0 then (zeroS, (openP l).2) else if okS (openP l).1 = true then (rawS (openP l).1, 0) else (zeroS, 5)
theorem unfix1 (l : List Int) (hl : l.length = 1) (hb : ∀ x ∈ l, 0 ≤ x ∧ x ≤ 255) : unfixP l = (unB l, 0) ∧ 0 ≤ unB l ∧ unB l ≤ 255 := by
  have h := unB_lt l hb
  rw [hl] at h
  have h2 : (256 : Int) ^ 1 = 256 := by decide
  rw [h2] at h
  refine ⟨?_, h.1, by omega⟩
  unfold unfixP
  rw [if_neg (by omega), if_neg (by omega)]
theorem nums5 (own : List Int) : numsS own 5 = [(rawS own).k, sizeS own, (rawS own).l, (rawS own).e, (rawS own).n] := rfl
theorem five_set {w : World} {b t : Nat} {a0 a1 a2 a3 a4 : Value} (h : w.heap[b]? = some (.cells #[a0, a1, a2, a3, a4] t (0, 0))) (v0 v1 v2 v3 v4 : Value) : (((((w.setCell ⟨b, 0, none⟩ v0).setCell ⟨b, 1, none⟩ v1).setCell ⟨b, 2, none⟩ v2).setCell ⟨b, 3, none⟩ v3).setCell ⟨b, 4, none⟩ v4).heap[b]? = some (.cells #[v0, v1, v2, v3, v4] t (0, 0)) := by
  have := blk_set (blk_set (blk_set (blk_set (blk_set h 0 v0) 1 v1) 2 v2) 3 v3) 4 v4
  rw [this]
  rfl
theorem five_below {w0 w : World} {base b : Nat} (h : Below base w0 w) (hb : base ≤ b) (v0 v1 v2 v3 v4 : Value) : Below base w0 (((((w.setCell ⟨b, 0, none⟩ v0).setCell ⟨b, 1, none⟩ v1).setCell ⟨b, 2, none⟩ v2).setCell ⟨b, 3, none⟩ v3).setCell ⟨b, 4, none⟩ v4) :=
  ((((h.setCell hb v0).setCell hb v1).setCell hb v2).setCell hb v3).setCell hb v4
theorem five_but {w : World} {b : Nat} (v0 v1 v2 v3 v4 : Value) : ∀ k, k ≠ b → (((((w.setCell ⟨b, 0, none⟩ v0).setCell ⟨b, 1, none⟩ v1).setCell ⟨b, 2, none⟩ v2).setCell ⟨b, 3, none⟩ v3).setCell ⟨b, 4, none⟩ v4).heap[k]? = w.heap[k]? := fun k hk => by
  rw [Below.heap_setCell _ _ _ _ hk, Below.heap_setCell _ _ _ _ hk, Below.heap_setCell _ _ _ _ hk, Below.heap_setCell _ _ _ _ hk, Below.heap_setCell _ _ _ _ hk]
structure GT (w0 w : World) (base cb : Nat) (bs : List Int) (bad : Bool) : Prop where
  below : Below w0.heap.size w0 w
  zero : w.heap[w0.heap.size]? = some (.cells #[.int .i64 0, .int .i64 0, .int .i64 0, .int .i64 0, .slice none 0 0] 69 (0, 0))
  pc : PC w base cb bs bad
  far : w0.heap.size < cb
  cur : cb < w.heap.size
theorem GT.only {w0 w w' : World} {base cb : Nat} {bs bs' : List Int} {bad bad' : Bool} (h : GT w0 w base cb bs bad) (f : Only cb w w') (p : PC w' base cb bs' bad') : GT w0 w' base cb bs' bad' :=
  ⟨h.below.trans (f.below (by have := h.far; omega) h.below.size), (f.block _ (blk_lt h.zero) (by have := h.far; omega)).trans h.zero, p, h.far, Nat.lt_of_lt_of_le h.cur f.size⟩
theorem GT.end_ {w0 w w' : World} {base cb : Nat} {bs : List Int} {bad : Bool} (h : GT w0 w base cb bs bad) (f : Only cb w w') : Below w0.heap.size w0 w' ∧ w'.heap[w0.heap.size]? = some (.cells #[.int .i64 0, .int .i64 0, .int .i64 0, .int .i64 0, .slice none 0 0] 69 (0, 0)) :=
  ⟨h.below.trans (f.below (by have := h.far; omega) h.below.size), (f.block _ (blk_lt h.zero) (by have := h.far; omega)).trans h.zero⟩
theorem GT.step {w0 w w' : World} {base cb : Nat} {bs : List Int} {bad : Bool} (h : GT w0 w base cb bs bad) (f : Below w.heap.size w w') : GT w0 w' base cb bs bad :=
  ⟨h.below.trans (f.mono h.below.size), (f.block _ (blk_lt h.zero)).trans h.zero, h.pc.only (b := 0) f, h.far, Nat.lt_of_lt_of_le h.cur f.size⟩
set_option maxHeartbeats 16000000 in
set_option maxRecDepth 100000 in
theorem get_no {w : World} (A : Option Addr) (c : Nat) (l : List Int) (hC : Kd.C (Kd.int .u8) w A l.length l) (hb : ∀ y ∈ l, 0 ≤ y ∧ y ≤ 255) (hc : l.length ≤ c) (hl : l.length ≤ 200000) (hno : l.length ≠ 64 ∨ (openP l).2 ≠ 0) :
    Calls Try.prog 31 #[.slice A l.length c] w fun r w' => r = .returned (.tuple #[.agg #[.int .i64 0, .int .i64 0, .int .i64 0, .int .i64 0, .slice none 0 0], .int .i64 (getS l).2]) ∧ Below w.heap.size w w' := by
  have HC := Aside0.mk hC
  have HBY := Aside0.mk hb
  clear hC hb
  obtain ⟨r, hr⟩ : ∃ r, r = (getS l).2 := ⟨_, rfl⟩
  rw [← hr]
  by_cases h64 : l.length ≠ 64
  · have HQ := Aside0.mk (show r = 11 by rw [hr]; unfold getS; rw [if_pos h64])
    have hne : ((l.length : Int) != 64) = true := by simp; omega
    clear hr hno
    go_enter Try.func31, Try.ntmps31
    go_wp2_with fail
    refine bodyPost_ret (results_ct rfl _ _ w.heap.size 69 #[.int .i64 0, .int .i64 0, .int .i64 0, .int .i64 0, .slice none 0 0] (0, 0) _ rfl (heap_alloc_new w _) Try.underlying69 rfl (by kernel_rfl)) rfl ?_
    exact ⟨by rw [HQ.out]; rfl, (Below.refl _ _).alloc (Nat.le_refl _) _⟩
  · have h2 : l.length = 64 := by omega
    have h12 : (openP l).2 = 12 := by
      rcases open_err l with h | h
      · rcases hno with hn | hn
        · exact absurd h2 hn
        · exact absurd h hn
      · exact h
    have HQ := Aside0.mk (show r = 12 by rw [hr]; unfold getS; rw [if_neg h64, if_pos (by rw [h12]; decide), h12])
    have HL := Aside0.mk h2
    have H12 := Aside0.mk h12
    rw [h2] at hc hl ⊢
    clear hr hno h64 h2 h12
    go_enter Try.func31, Try.ntmps31
    go_wp2_with fail
    obtain ⟨W, hW⟩ : ∃ W, W = w.alloc (.cells #[.int .i64 0, .int .i64 0, .int .i64 0, .int .i64 0, .slice none 0 0] 69) := ⟨_, rfl⟩
    have HB0 := Aside0.mk (show Below w.heap.size w W by rw [hW]; exact (Below.refl _ _).alloc (Nat.le_refl _) _)
    have HBX := Aside0.mk (show W.heap[w.heap.size]? = some (.cells #[.int .i64 0, .int .i64 0, .int .i64 0, .int .i64 0, .slice none 0 0] 69 (0, 0)) by rw [hW]; exact heap_alloc_new w _)
    rw [← hW]
    clear hW
    have hop := open_any A c l W (Kd.C_below HC.out HB0.out) HBY.out (by rw [HL.out]; omega) (by rw [HL.out]; omega)
    rw [HL.out, H12.out] at hop
    refine hop.mono ?_
    clear hop
    rintro e w1 ⟨v1, rfl, _, b1⟩
    have hbx := (b1.block _ (blk_lt HBX.out)).trans HBX.out
    have HB1 := Aside0.mk (HB0.out.trans (b1.mono HB0.out.size))
    have HX1 := Aside0.mk hbx
    have z0 : w1.cell? ⟨w.heap.size, 0, none⟩ = some (.int .i64 0) := cell_blk hbx
    have z1 : w1.cell? ⟨w.heap.size, 1, none⟩ = some (.int .i64 0) := cell_blk hbx
    have z2 : w1.cell? ⟨w.heap.size, 2, none⟩ = some (.int .i64 0) := cell_blk hbx
    have z3 : w1.cell? ⟨w.heap.size, 3, none⟩ = some (.int .i64 0) := cell_blk hbx
    have z4 : w1.cell? ⟨w.heap.size, 4, none⟩ = some (.slice none 0 0) := cell_blk hbx
    have f0 : w1.frozen? ⟨w.heap.size, 0, none⟩ = false := frozen_blk hbx
    have f1 : w1.frozen? ⟨w.heap.size, 1, none⟩ = false := frozen_blk hbx
    have f2 : w1.frozen? ⟨w.heap.size, 2, none⟩ = false := frozen_blk hbx
    have f3 : w1.frozen? ⟨w.heap.size, 3, none⟩ = false := frozen_blk hbx
    have f4 : w1.frozen? ⟨w.heap.size, 4, none⟩ = false := frozen_blk hbx
    clear b1 hbx
    go_wp2_with fail
    refine bodyPost_ret (results_ct rfl _ _ w.heap.size 69 #[.int .i64 0, .int .i64 0, .int .i64 0, .int .i64 0, .slice none 0 0] (0, 0) _ rfl (five_set HX1.out _ _ _ _ _) Try.underlying69 rfl (by kernel_rfl)) rfl ?_
    exact ⟨by rw [HQ.out]; rfl, five_below HB1.out (Nat.le_refl _) _ _ _ _ _⟩
theorem set1 {w4 w6 : World} {cb xb : Nat} (hO : Only cb w4 w6) (hx : w4.heap.size ≤ xb) (i : Nat) (v : Value) : Only cb w4 (w6.setCell ⟨xb, i, none⟩ v) :=
  ⟨hO.os, hO.tape, hO.output, by have := hO.size; simpa [World.setCell] using this, fun k hk hn => (Below.heap_setCell w6 ⟨xb, i, none⟩ v k (by show k ≠ xb; omega)).trans (hO.block k hk hn)⟩
theorem sets5 {w4 w6 : World} {cb xb : Nat} (hO : Only cb w4 w6) (hx : w4.heap.size ≤ xb) (v0 v1 v2 v3 v4 : Value) : Only cb w4 (((((w6.setCell ⟨xb, 0, none⟩ v0).setCell ⟨xb, 1, none⟩ v1).setCell ⟨xb, 2, none⟩ v2).setCell ⟨xb, 3, none⟩ v3).setCell ⟨xb, 4, none⟩ v4) :=
  set1 (set1 (set1 (set1 (set1 hO hx 0 v0) hx 1 v1) hx 2 v2) hx 3 v3) hx 4 v4
theorem pc_other {w w' : World} {base cb xb : Nat} {cs : Array Value} {bs : List Int} {bad : Bool} (h : PC w base cb bs bad) (hx : w.heap[xb]? = some (.cells cs 69 (0, 0))) (hb : ∀ k, k ≠ xb → w'.heap[k]? = w.heap[k]?) : PC w' base cb bs bad := by
  have hne : ∀ (k : Nat) (cs' : Array Value) (t : Nat), w.heap[k]? = some (.cells cs' t (0, 0)) → t ≠ 69 → k ≠ xb := fun k cs' t h ht e => by
    subst e
    rw [hx] at h
    cases h
    exact ht rfl
  unfold PC at *
  cases bad with
  | true => exact ⟨h.1, h.2.1, (hb _ (hne _ _ _ h.2.2 (by decide))).trans h.2.2⟩
  | false =>
    obtain ⟨g, off, c, all, sp, h⟩ := h
    exact ⟨g, off, c, all, sp, h.cbase, (hb _ (hne _ _ _ h.cells (by decide))).trans h.cells, (hb _ (hne _ _ _ h.row (by decide))).trans h.row, h.at_, h.room, h.few⟩
theorem R_other {w w' : World} {base xb t : Nat} {ok : Nat → Prop} {cs : Array Value} {v : Value} {xs : List Int} (h : Kd.R (Kd.int .u8) 5 w base ok v xs) (hx : w.heap[xb]? = some (.cells cs t (0, 0))) (ht : t ≠ 5) (hb : ∀ k, k ≠ xb → w'.heap[k]? = w.heap[k]?) : Kd.R (Kd.int .u8) 5 w' base ok v xs :=
  Kd.R_mono (Kd.R_step (Kd.R_bound h) (fun k hk hlt => hb k (fun e => by
    obtain ⟨_, _, _, q, hq, cells, hcl⟩ := hk
    rw [e, hx] at hcl
    cases hcl
    simp [Kd.int, Kd.scalar] at hq
    exact ht hq))) (fun _ hk => hk.1)
theorem R_oldS {w w' : World} {cb base q t : Nat} {v : Value} {xs : List Int} (h : Kd.R (Kd.int .u8) t w base (fun k => q ≤ k) v xs) (f : Only cb w w') (hb : cb < q) : Kd.R (Kd.int .u8) t w' base (fun k => q ≤ k) v xs :=
  Kd.R_step h (fun k hk hlt => f.block k hlt (by omega))
set_option maxHeartbeats 16000000 in
set_option maxRecDepth 100000 in
theorem get_yes {w : World} (A : Option Addr) (c : Nat) (l : List Int) (hC : Kd.C (Kd.int .u8) w A l.length l) (hb : ∀ y ∈ l, 0 ≤ y ∧ y ≤ 255) (hc : l.length ≤ c) (h64 : l.length = 64) (h0 : (openP l).2 = 0) :
    Calls Try.prog 31 #[.slice A l.length c] w fun z w' => ∃ v, z = .returned (.tuple #[.agg #[.int .i64 (getS l).1.k, .int .i64 (getS l).1.e, .int .i64 (getS l).1.n, .int .i64 (getS l).1.l, v], .int .i64 (getS l).2]) ∧ Kd.R (Kd.int .u8) 5 w' w.heap.size (fun _ => True) v (getS l).1.d ∧ Below w.heap.size w w' := by
  have HC := Aside0.mk hC
  have HBY := Aside0.mk hb
  have HL := Aside0.mk h64
  have H0 := Aside0.mk h0
  obtain ⟨ho1, _⟩ := open_len l h0
  obtain ⟨own, hown⟩ : ∃ own, own = (openP l).1 := ⟨_, rfl⟩
  have hlo : own.length = 60 := by rw [hown, ho1, List.length_take, h64]; omega
  have hob : ∀ y ∈ own, 0 ≤ y ∧ y ≤ 255 := fun y hy => hb y (by rw [hown, ho1] at hy; exact List.mem_of_mem_take hy)
  have HLO := Aside0.mk hlo
  have HOB := Aside0.mk hob
  obtain ⟨r, hr⟩ : ∃ r, r = getS l := ⟨_, rfl⟩
  rw [← hr]
  have HQ := Aside0.mk (show r = if okS own = true then (rawS own, 0) else (zeroS, 5) by rw [hr, hown]; unfold getS; rw [if_neg (by omega), if_neg (by omega)])
  have HOWN := Aside0.mk hown
  obtain ⟨k, hk⟩ : ∃ z, z = (rawS own).k := ⟨_, rfl⟩
  obtain ⟨e, he⟩ : ∃ z, z = (rawS own).e := ⟨_, rfl⟩
  obtain ⟨n, hn⟩ : ∃ z, z = (rawS own).n := ⟨_, rfl⟩
  obtain ⟨lf, hlf⟩ : ∃ z, z = (rawS own).l := ⟨_, rfl⟩
  have hsz := unfix1 ((own.drop 1).take 1) (by rw [List.length_take, List.length_drop, hlo]; omega) (take_byte hob 1 1)
  have hsz2 : sizeS own = unB ((own.drop 1).take 1) := by unfold sizeS numP; rw [hsz.1]; rfl
  obtain ⟨sn, hs⟩ : ∃ sn : Nat, (sn : Int) = sizeS own := ⟨(unB ((own.drop 1).take 1)).toNat, by rw [hsz2]; omega⟩
  have hs6 : sn ≤ 255 := by rw [hsz2] at hs; omega
  have HS6 := Aside0.mk hs6
  have HSZ := Aside0.mk (show sizeS own = (sn : Int) from hs.symm)
  have HRD := Aside0.mk (show (rawS own).d = (own.drop 12).take sn by unfold rawS; rw [show sizeS own = (sn : Int) from hs.symm, Int.toNat_natCast])
  have HRAW := Aside0.mk (show rawS own = ⟨k, e, n, lf, (own.drop 12).take sn⟩ by rw [hk, he, hn, hlf, ← HRD.out])
  have HNU := Aside0.mk (show numsS own 5 = [k, (sn : Int), lf, e, n] by rw [nums5, hk, he, hn, hlf, hs])
  clear hC hb h0 ho1 hown hlo hob hr hk he hn hlf hsz hsz2 hs hs6
  rw [h64] at hc ⊢
  clear h64
  go_enter Try.func31, Try.ntmps31
  go_wp2_with fail
  obtain ⟨W, hW⟩ : ∃ W, W = w.alloc (.cells #[.int .i64 0, .int .i64 0, .int .i64 0, .int .i64 0, .slice none 0 0] 69) := ⟨_, rfl⟩
  have HB0 := Aside0.mk (show Below w.heap.size w W by rw [hW]; exact (Below.refl _ _).alloc (Nat.le_refl _) _)
  have HBX := Aside0.mk (show W.heap[w.heap.size]? = some (.cells #[.int .i64 0, .int .i64 0, .int .i64 0, .int .i64 0, .slice none 0 0] 69 (0, 0)) by rw [hW]; exact heap_alloc_new w _)
  rw [← hW]
  clear hW
  have hop := open_any A c l W (Kd.C_below HC.out HB0.out) HBY.out (by rw [HL.out]; omega) (by rw [HL.out]; omega)
  rw [HL.out, H0.out, ← HOWN.out] at hop
  refine hop.mono ?_
  clear hop
  rintro z w1 ⟨v1, rfl, hr1, b1⟩
  obtain ⟨_, ho1⟩ := Kd.own_of_R hr1
  rcases ho1 with ⟨_, hz⟩ | ⟨g, cap, cur, rfl, _⟩
  · have := HLO.out; rw [hz] at this; cases this
  have HX1 := Aside0.mk ((b1.block _ (blk_lt HBX.out)).trans HBX.out)
  have HB1 := Aside0.mk (HB0.out.trans (b1.mono HB0.out.size))
  have HR1 := Aside0.mk (row_at hr1)
  clear hr1 b1
  rw [HLO.out]
  go_wp2_with fail
  have hf := from_any ⟨g, 0, none⟩ cap own HR1.out (by rw [HLO.out]; omega)
  rw [HLO.out] at hf
  refine hf.mono ?_
  clear hf
  rintro z w2 ⟨cb, rfl, hp, b2⟩
  have HG := Aside0.mk (show GT w w2 w1.heap.size cb own false from ⟨HB1.out.trans (b2.mono HB1.out.size), (b2.block _ (blk_lt HX1.out)).trans HX1.out, hp, by have := (pc_lt hp).2; have := blk_lt HX1.out; omega, (pc_lt hp).1⟩)
  clear hp b2 HX1 HR1
  go_wp2_with fail
  obtain ⟨w3, hw3⟩ : ∃ w3, w3 = w2.alloc (.cells #[.int .i64 1, .int .i64 1, .int .i64 2, .int .i64 4, .int .i64 4] 3) := ⟨_, rfl⟩
  have hb3 : Below w2.heap.size w2 w3 := by rw [hw3]; exact (Below.refl _ _).alloc (Nat.le_refl _) _
  have hx3 : w3.heap[w2.heap.size]? = some (.cells #[.int .i64 1, .int .i64 1, .int .i64 2, .int .i64 4, .int .i64 4] 3 (0, 0)) := by rw [hw3]; exact heap_alloc_new w2 _
  rw [← hw3]
  have hg := HG.out.step hb3
  clear HG hw3 hb3
  have HG := Aside0.mk hg
  clear hg
  refine (numbers_any own HG.out.pc HLO.out HOB.out hx3).mono ?_
  clear hx3
  rintro z w4 ⟨A4, c4, rfl, hr4, hp4, ho4⟩
  have hg := HG.out.only ho4 hp4
  have HCB4 := Aside0.mk (Nat.lt_of_lt_of_le HG.out.cur (Nat.le_refl _))
  clear HG hp4 ho4
  have HG := Aside0.mk hg
  clear hg
  rw [HNU.out] at hr4
  obtain ⟨_, hl4⟩ := Kd.own_of_R hr4
  rcases hl4 with ⟨_, hz⟩ | ⟨gl, cap4, cur4, he4, hgl3, hgl4, _⟩
  · cases hz
  cases he4
  have hC4 := (Kd.R_reads' hr4).2.2
  have HGL := Aside0.mk (show gl ≠ cb by have := HCB4.out; omega)
  have HGB := Aside0.mk hgl4
  have hi : ∀ (j : Nat) (v : Int), j < 5 → ([k, (sn : Int), lf, e, n] : List Int).getD j 0 = v → w4.cell? ⟨gl, j, none⟩ = some (.int .i64 v) := fun j v hj hv => by
    obtain ⟨ad, ea, hx⟩ := Kd.at_int hC4 (j : Int) (by omega) (by simp; omega)
    cases ea
    rw [Int.toNat_natCast] at hx
    have hadd : (⟨gl, 0, none⟩ : Addr).add j = ⟨gl, j, none⟩ := by unfold Addr.add; split <;> simp_all
    rw [hadd] at hx
    rw [hx, ← hv]
    rfl
  have HI := Aside0.mk hi
  clear hi hC4 hr4 hgl3 hgl4
  by_cases hk48 : sn ≤ 48
  · have HK48 := Aside0.mk hk48
    obtain ⟨d, hd⟩ : ∃ d, d = (own.drop 12).take sn := ⟨_, rfl⟩
    obtain ⟨rs, hrs⟩ : ∃ rs, rs = (own.drop 12).drop sn := ⟨_, rfl⟩
    have hdl : d.length = sn := by rw [hd, List.length_take, List.length_drop, HLO.out]; omega
    have HDL := Aside0.mk hdl
    have HD := Aside0.mk hd
    have HRS := Aside0.mk hrs
    clear hd hrs hk48 hdl
    go_upto_region 8 with (fail)
    go_cut [8] from 28 to 45 (fun v8 wc => ∃ (xb : Nat) (A7 : Option Addr) (c7 : Nat), v8 = .pointer (some ⟨xb, 0, none⟩) ∧ Aside0 (GT w wc w1.heap.size cb rs false) ∧ Aside0 (wc.heap[xb]? = some (.cells #[.int .i64 k, .int .i64 e, .int .i64 n, .int .i64 lf, .slice A7 sn c7] 69 (0, 0))) ∧ Aside0 (Kd.R (Kd.int .u8) 5 wc w1.heap.size (fun j => w4.heap.size ≤ j) (.slice A7 sn c7) d) ∧ Aside0 (cb < xb))
    case first =>
      refine Go.Reg.region_fork (Only cb w4) [.s, .s, .s, .s, .s, .s, .s, .s, .s, .s, .s, .s, .s, .s, .s, .s, .w, .p, .w, .x] [0, 1, 2, 3, 4, 5, 6, 7, 8, 9, 10, 11, 12, 13, 14, 15] 16 18 [17, 18, 19] [16, 17, 19] (by kernel_rfl) (by kernel_rfl) (.of_below (below_drew1 (Below.refl _ _))) (fun ne => ?_)
      have hm : ∀ (j : Nat) (v : Int), j < 5 → ([k, (sn : Int), lf, e, n] : List Int).getD j 0 = v → ∀ m : Go.Reg.In (Only cb w4), m.w.cell? ⟨gl, j, none⟩ = some (.int .i64 v) := fun j v hj hv m => by
        have h1 := HI.out j v hj hv
        rw [cell_blk HGB.out] at h1
        rw [cell_blk ((m.h.block gl (blk_lt HGB.out) HGL.out).trans HGB.out)]
        exact h1
      have hm0 := hm 0 k (by decide) rfl
      have hm1 := hm 1 (sn : Int) (by decide) rfl
      have hm2 := hm 2 lf (by decide) rfl
      have hm3 := hm 3 e (by decide) rfl
      have hm4 := hm 4 n (by decide) rfl
      clear hm
      dsimp only [Go.Reg.pick, List.filterMap, List.map, List.getD_eq_getElem?_getD]
      simp only [List.getElem?_toArray, List.getElem?_cons_zero, List.getElem?_cons_succ, List.filterMap_cons, List.filterMap_nil, Option.getD_some]
      refine Go.Reg.lex_q 16 _ _ _ _ (by rfl) ?_; simp only [List.take_succ_cons, List.take_zero, List.drop_succ_cons, List.drop_zero]; (repeat (go_big_quiet_step (rfl))); refine wpQuiet_nil ?_
      refine Go.Reg.lex_nil ?_
      clear hm0 hm1 hm2 hm3 hm4
      have HOD := Aside0.mk (Only.of_below (b := cb) (below_drew1 (Below.refl w4.heap.size w4)))
      have HGD := Aside0.mk (HG.out.step (below_drew1 (Below.refl w4.heap.size w4)))
      refine ⟨?_, ?_, fun o ho => ?_⟩
      · refine Go.Reg.step_w (fun KK hKK => ?_)
        go_wp2_with fail
        refine (take_yes HGD.out.pc sn (by rw [List.length_drop, HLO.out]; have := HK48.out; omega)).mono ?_
        rintro z w5 ⟨v7, rfl, hr, hp, ho⟩
        rw [← HD.out] at hr
        rw [← HRS.out] at hp
        obtain ⟨A7, c7, rfl⟩ := Kd.R_slice hr
        rw [HDL.out] at hr ⊢
        have HO5 := Aside0.mk (HOD.out.trans ho)
        have HP5 := Aside0.mk hp
        have HR5 := Aside0.mk (show Kd.R (Kd.int .u8) 5 w5 w1.heap.size (fun j => w4.heap.size ≤ j) (.slice A7 sn c7) d from Kd.R_lower (base' := w1.heap.size) (R_bnd hr) (by have := HGD.out.pc; have := (pc_lt this); have : w4.drew.heap.size = w4.heap.size := rfl; omega))
        clear hr hp ho
        go_wp2_with fail
        refine hKK.out _ _ HO5.out ?_
        clear hKK KK
        refine Go.Reg.lex_qp 1 _ _ _ _ _ (by rfl) ?_; simp only [List.take_succ_cons, List.take_zero, List.drop_succ_cons, List.drop_zero]; (repeat (go_big_quiet_step (rfl))); refine wpQuiet_nil ?_
        refine Go.Reg.step_w (fun KK hKK => ?_)
        go_wp2_with fail
        have hal := (Below.refl w5.heap.size w5).alloc (Nat.le_refl _) (.cells #[.int .i64 0, .int .i64 0, .int .i64 0, .int .i64 0, .slice none 0 0] 69)
        have hnb := heap_alloc_new w5 (.cells #[.int .i64 0, .int .i64 0, .int .i64 0, .int .i64 0, .slice none 0 0] 69)
        obtain ⟨w6, hw6⟩ : ∃ w6, w6 = w5.alloc (.cells #[.int .i64 0, .int .i64 0, .int .i64 0, .int .i64 0, .slice none 0 0] 69) := ⟨_, rfl⟩
        rw [← hw6] at hal hnb
        rw [← hw6]
        have HO6 := Aside0.mk (HO5.out.trans (.of_below hal))
        have HP6 := Aside0.mk (HP5.out.only (b := 0) hal)
        have HR6 := Aside0.mk (Kd.R_below HR5.out hal)
        have hub := HO5.out.size
        obtain ⟨xb, hxb⟩ : ∃ xb, xb = w5.heap.size := ⟨_, rfl⟩
        rw [← hxb] at hnb hub
        rw [← hxb]
        have HNB := Aside0.mk hnb
        have HUB := Aside0.mk hub
        clear hw6 hal hnb hxb hub
        refine hKK.out _ _ HO6.out ?_
        clear hKK KK
        have e0 : w6.cell? ⟨xb, 0, none⟩ = some (.int .i64 0) := cell_blk HNB.out
        have e1 : w6.cell? ⟨xb, 1, none⟩ = some (.int .i64 0) := cell_blk HNB.out
        have e2 : w6.cell? ⟨xb, 2, none⟩ = some (.int .i64 0) := cell_blk HNB.out
        have e3 : w6.cell? ⟨xb, 3, none⟩ = some (.int .i64 0) := cell_blk HNB.out
        have e4 : w6.cell? ⟨xb, 4, none⟩ = some (.slice none 0 0) := cell_blk HNB.out
        have g0 : w6.frozen? ⟨xb, 0, none⟩ = false := frozen_blk HNB.out
        have g1 : w6.frozen? ⟨xb, 1, none⟩ = false := frozen_blk HNB.out
        have g2 : w6.frozen? ⟨xb, 2, none⟩ = false := frozen_blk HNB.out
        have g3 : w6.frozen? ⟨xb, 3, none⟩ = false := frozen_blk HNB.out
        have g4 : w6.frozen? ⟨xb, 4, none⟩ = false := frozen_blk HNB.out
        refine Go.Reg.step_x (by rfl) (fun KK hKK => ?_)
        go_wp2_with fail
        refine hKK.out _ _ ?_
        clear hKK KK
        try simp only [Act.put, List.setIfInBounds_toArray, List.set_cons_succ, List.set_cons_zero]
        refine Go.Reg.lex_nil ?_
        clear e0 e1 e2 e3 e4 g0 g1 g2 g3 g4
        go_wp2_with fail
        go_meet
        case rel =>
          exact ⟨xb, A7, c7, rfl, ⟨HG.out.only (sets5 HO6.out HUB.out _ _ _ _ _) (pc_other HP6.out HNB.out (five_but _ _ _ _ _))⟩, ⟨five_set HNB.out _ _ _ _ _⟩, ⟨R_other HR6.out HNB.out (by decide) (five_but _ _ _ _ _)⟩, ⟨by have := HG.out.cur; have := HUB.out; omega⟩⟩
      · refine Go.Reg.step_w (fun KK hKK => ?_)
        go_wp2_with fail
        obtain ⟨w5, hw5⟩ : ∃ w5, w5 = (w4.alloc (.cells #[.int .i64 0, .int .i64 0, .int .i64 0, .int .i64 0, .slice none 0 0] 69)).drew := ⟨_, rfl⟩
        have hal : Below w4.drew.heap.size w4.drew w5 := by rw [hw5]; exact (Below.refl w4.drew.heap.size w4.drew).alloc (Nat.le_refl _) (.cells #[.int .i64 0, .int .i64 0, .int .i64 0, .int .i64 0, .slice none 0 0] 69)
        have hnb : w5.heap[w4.heap.size]? = some (.cells #[.int .i64 0, .int .i64 0, .int .i64 0, .int .i64 0, .slice none 0 0] 69 (0, 0)) := by rw [hw5]; exact heap_alloc_new w4.drew (.cells #[.int .i64 0, .int .i64 0, .int .i64 0, .int .i64 0, .slice none 0 0] 69)
        rw [← hw5]
        have HO5 := Aside0.mk (HOD.out.trans (.of_below hal))
        have HGE := Aside0.mk (HGD.out.step hal)
        obtain ⟨xb, hxb⟩ : ∃ xb, xb = w4.heap.size := ⟨_, rfl⟩
        have hub : w4.heap.size ≤ xb := by omega
        have HNB5 := Aside0.mk hnb
        have HUB := Aside0.mk hub
        rw [← hxb] at HNB5
        rw [← hxb]
        have HXC := Aside0.mk (show xb ≠ cb by have := HG.out.cur; omega)
        clear hw5 hal hnb hxb hub
        refine hKK.out _ _ HO5.out ?_
        clear hKK KK
        refine Go.Reg.step_w (fun KK hKK => ?_)
        go_wp2_with fail
        refine (take_yes HGE.out.pc sn (by rw [List.length_drop, HLO.out]; have := HK48.out; omega)).mono ?_
        rintro z w6 ⟨v7, rfl, hr, hp, ho⟩
        rw [← HD.out] at hr
        rw [← HRS.out] at hp
        obtain ⟨A7, c7, rfl⟩ := Kd.R_slice hr
        rw [HDL.out] at hr ⊢
        have HO6 := Aside0.mk (HO5.out.trans ho)
        have HP6 := Aside0.mk hp
        have HNB := Aside0.mk ((ho.block xb (blk_lt HNB5.out) HXC.out).trans HNB5.out)
        have HR6 := Aside0.mk (show Kd.R (Kd.int .u8) 5 w6 w1.heap.size (fun j => w4.heap.size ≤ j) (.slice A7 sn c7) d from Kd.R_mono (Kd.R_lower (base' := w1.heap.size) (R_bnd hr) (by have := (pc_lt HGE.out.pc); omega)) (fun j hj => Nat.le_trans HO5.out.size hj))
        clear hr hp ho
        go_wp2_with fail
        refine hKK.out _ _ HO6.out ?_
        clear hKK KK
        refine Go.Reg.lex_qp 1 _ _ _ _ _ (by rfl) ?_; simp only [List.take_succ_cons, List.take_zero, List.drop_succ_cons, List.drop_zero]; (repeat (go_big_quiet_step (rfl))); refine wpQuiet_nil ?_
        have e0 : w6.cell? ⟨xb, 0, none⟩ = some (.int .i64 0) := cell_blk HNB.out
        have e1 : w6.cell? ⟨xb, 1, none⟩ = some (.int .i64 0) := cell_blk HNB.out
        have e2 : w6.cell? ⟨xb, 2, none⟩ = some (.int .i64 0) := cell_blk HNB.out
        have e3 : w6.cell? ⟨xb, 3, none⟩ = some (.int .i64 0) := cell_blk HNB.out
        have e4 : w6.cell? ⟨xb, 4, none⟩ = some (.slice none 0 0) := cell_blk HNB.out
        have g0 : w6.frozen? ⟨xb, 0, none⟩ = false := frozen_blk HNB.out
        have g1 : w6.frozen? ⟨xb, 1, none⟩ = false := frozen_blk HNB.out
        have g2 : w6.frozen? ⟨xb, 2, none⟩ = false := frozen_blk HNB.out
        have g3 : w6.frozen? ⟨xb, 3, none⟩ = false := frozen_blk HNB.out
        have g4 : w6.frozen? ⟨xb, 4, none⟩ = false := frozen_blk HNB.out
        refine Go.Reg.step_x (by rfl) (fun KK hKK => ?_)
        go_wp2_with fail
        refine hKK.out _ _ ?_
        clear hKK KK
        try simp only [Act.put, List.setIfInBounds_toArray, List.set_cons_succ, List.set_cons_zero]
        refine Go.Reg.lex_nil ?_
        clear e0 e1 e2 e3 e4 g0 g1 g2 g3 g4
        go_wp2_with fail
        go_meet
        case rel =>
          exact ⟨xb, A7, c7, rfl, ⟨HG.out.only (sets5 HO6.out HUB.out _ _ _ _ _) (pc_other HP6.out HNB.out (five_but _ _ _ _ _))⟩, ⟨five_set HNB.out _ _ _ _ _⟩, ⟨R_other HR6.out HNB.out (by decide) (five_but _ _ _ _ _)⟩, ⟨by have := HG.out.cur; have := HUB.out; omega⟩⟩
      · rcases ho with ho | ho <;> (cases ho; rfl)
    case rest =>
      have HCQ := Aside0.mk HG.out.cur
      obtain ⟨xb, A7, c7, rfl, HG, HXB, HR8, HCX⟩ := hcut
      go_wp2_with fail
      refine (bad_any HG.out.pc).mono ?_
      rintro z w8 ⟨rfl, hw8⟩
      obtain rfl : w8 = wc := hw8
      have x0 : w8.cell? ⟨xb, 0, none⟩ = some (.int .i64 k) := cell_blk HXB.out
      have x1 : w8.cell? ⟨xb, 1, none⟩ = some (.int .i64 e) := cell_blk HXB.out
      have x2 : w8.cell? ⟨xb, 2, none⟩ = some (.int .i64 n) := cell_blk HXB.out
      have x3 : w8.cell? ⟨xb, 3, none⟩ = some (.int .i64 lf) := cell_blk HXB.out
      have x4 : w8.cell? ⟨xb, 4, none⟩ = some (.slice A7 sn c7) := cell_blk HXB.out
      go_wp2_with fail
      have hm := PSectorGets.sector_may.calls k e n lf A7 c7 d (secOk k e n lf d) w8 (row_at HR8.out) (by have := (Kd.R_reads' HR8.out).2.1; rw [HDL.out]; exact this) (may_plain k e n lf d)
      rw [HDL.out] at hm
      by_cases hok : secOk k e n lf d = true
      · rw [hok] at hm
        refine hm.mono ?_
        clear hm x0 x1 x2 x3 x4
        rintro z w9 ⟨rfl, b9⟩
        have HOK := Aside0.mk hok
        have HX9 := Aside0.mk ((b9.block _ (blk_lt HXB.out)).trans HXB.out)
        have HR9 := Aside0.mk (Kd.R_below HR8.out b9)
        have hg := HG.out.step b9
        clear HG b9 hok HXB HR8
        have HG := Aside0.mk hg
        clear hg
        go_wp2_with fail
        refine (left_any HG.out.pc).mono ?_
        rintro z w9' ⟨rfl, hw9'⟩
        obtain rfl : w9' = w9 := hw9'
        go_wp2_with fail
        refine (take_yes HG.out.pc rs.length (Nat.le_refl _)).mono ?_
        rintro z w10 ⟨v10, rfl, hr, hp, ho⟩
        rw [List.take_length] at hr
        have HO10 := Aside0.mk ho
        have HV10 := Aside0.mk hr
        clear hr hp ho
        obtain ⟨A10, c10, rfl⟩ := Kd.R_slice HV10.out
        go_wp2_with ((with_reducible refine gate_builtin (b := .append) (xs := #[.tmp 57, .tmp 58]) rfl ?_); at_builtin; refine Hid.out ?_)
        refine Lib.hid ?_
        obtain ⟨w11, hw11⟩ : ∃ w11, w11 = w10.alloc (.cells #[.int .u8 0] 5) := ⟨_, rfl⟩
        have hb11 : Below w10.heap.size w10 w11 := by rw [hw11]; exact (Below.refl _ _).alloc (Nat.le_refl _) _
        have hn11 : w11.heap[w10.heap.size]? = some (.cells #[.int .u8 0] 5 (0, 0)) := by rw [hw11]; exact heap_alloc_new w10 _
        rw [← hw11]
        clear hw11
        have HO11 := Aside0.mk (HO10.out.trans (Only.of_below hb11))
        have HV11 := Aside0.mk (Kd.R_below HV10.out hb11)
        have HN11 := Aside0.mk (rowN hn11)
        clear HO10 HV10 hb11 hn11
        have HRL := Aside0.mk (show rs.length ≤ 60 by rw [HRS.out, List.length_drop, List.length_drop, HLO.out]; omega)
        have HRB := Aside0.mk (show ∀ y ∈ rs ++ [0], 0 ≤ y ∧ y ≤ 255 from fun y hy => by
          rcases List.mem_append.1 hy with h | h
          · exact HOB.out y (by rw [HRS.out] at h; exact List.mem_of_mem_drop (List.mem_of_mem_drop h))
          · rw [List.mem_singleton.1 h]; omega)
        refine wpList_step (fun K' hK => ?_)
        refine Kd.R_append_rows_step (Kd.int .u8) (Rr := (Kd.int .u8).K w11) (w0 := w11) w9'.heap.size (by rfl) (.tmp 57) (.tmp 58) 26 5 (.int .u8 0) 1 rfl Try.underlying26 infoU8 rfl (by decide) (by omega) (.slice A10 rs.length c10) rs [0] _ _ _ (fun _ => True) (fun _ => False) rfl rfl HV11.out HN11.out (fun x cs h => h) (fun _ hk => hk.elim) (fun _ _ => trivial) (Below.refl _ _) HO11.out.size (by have := HRL.out; simp; omega) ?_
        intro v12 w12 hr12 hb12 _ _
        refine hK _ _ ?_
        clear hK K'
        have HO12 := Aside0.mk (show Only cb w9' w12 from only_trans' HO11.out hb12)
        have HV12 := Aside0.mk hr12
        obtain ⟨A12, c12, rfl⟩ := Kd.R_slice hr12
        clear hr12 hb12 HO11 HV11 HN11
        have hln : (rs ++ [0]).length = rs.length + 1 := by rw [List.length_append]; rfl
        have hmx := max_any A12 c12 (rs ++ [0]) (row_at HV12.out) HRB.out (by rw [hln]; omega) (by rw [hln]; have := HRL.out; omega)
        obtain ⟨ln, hlnn⟩ : ∃ ln, ln = (rs ++ [0]).length := ⟨_, rfl⟩
        obtain ⟨m, hm⟩ : ∃ m, m = maxL (rs ++ [0]) := ⟨_, rfl⟩
        have hmr := maxL_range (rs ++ [0]) HRB.out
        rw [← hlnn, ← hm] at hmx
        rw [← hm] at hmr
        rw [← hlnn]
        have HM := Aside0.mk (show m = maxL (own.drop (12 + sn)) by
          rw [hm, maxL_snoc _ _ (by omega), HRS.out, List.drop_drop]
          have := (maxL_range (own.drop (12 + sn)) (fun y hy => HOB.out y (List.mem_of_mem_drop hy))).1
          first
          | (rw [Nat.add_comm sn 12]; omega)
          | omega)
        have HX12 := Aside0.mk ((HO12.out.block _ (blk_lt HX9.out) (by have := HCX.out; omega)).trans HX9.out)
        have HR12 := Aside0.mk (R_oldS HR9.out HO12.out HCQ.out)
        have HBW := Aside0.mk (HG.out.end_ HO12.out).1
        have HZ := Aside0.mk (HG.out.end_ HO12.out).2
        clear hm hln hlnn HX9 HR9 HV12
        by_cases h0 : m = 0
        · subst h0
          go_wp2_with fail
          refine hmx.mono ?_
          clear hmx
          rintro z w13 ⟨rfl, hw13⟩
          obtain rfl : w13 = w12 := hw13
          have z0 : w13.cell? ⟨w.heap.size, 0, none⟩ = some (.int .i64 0) := cell_blk HZ.out
          have z1 : w13.cell? ⟨w.heap.size, 1, none⟩ = some (.int .i64 0) := cell_blk HZ.out
          have z2 : w13.cell? ⟨w.heap.size, 2, none⟩ = some (.int .i64 0) := cell_blk HZ.out
          have z3 : w13.cell? ⟨w.heap.size, 3, none⟩ = some (.int .i64 0) := cell_blk HZ.out
          have z4 : w13.cell? ⟨w.heap.size, 4, none⟩ = some (.slice none 0 0) := cell_blk HZ.out
          have f0 : w13.frozen? ⟨w.heap.size, 0, none⟩ = false := frozen_blk HZ.out
          have f1 : w13.frozen? ⟨w.heap.size, 1, none⟩ = false := frozen_blk HZ.out
          have f2 : w13.frozen? ⟨w.heap.size, 2, none⟩ = false := frozen_blk HZ.out
          have f3 : w13.frozen? ⟨w.heap.size, 3, none⟩ = false := frozen_blk HZ.out
          have f4 : w13.frozen? ⟨w.heap.size, 4, none⟩ = false := frozen_blk HZ.out
          have y0 : w13.cell? ⟨xb, 0, none⟩ = some (.int .i64 k) := cell_blk HX12.out
          have y1 : w13.cell? ⟨xb, 1, none⟩ = some (.int .i64 e) := cell_blk HX12.out
          have y2 : w13.cell? ⟨xb, 2, none⟩ = some (.int .i64 n) := cell_blk HX12.out
          have y3 : w13.cell? ⟨xb, 3, none⟩ = some (.int .i64 lf) := cell_blk HX12.out
          have y4 : w13.cell? ⟨xb, 4, none⟩ = some (.slice A7 sn c7) := cell_blk HX12.out
          go_wp2_with fail
          refine bodyPost_ret (results_ct rfl _ _ w.heap.size 69 #[.int .i64 k, .int .i64 e, .int .i64 n, .int .i64 lf, .slice A7 sn c7] (0, 0) _ rfl (five_set HZ.out _ _ _ _ _) Try.underlying69 rfl (by kernel_rfl)) rfl ?_
          have hr5 : r = (⟨k, e, n, lf, d⟩, 0) := by
            rw [HQ.out, if_pos]
            · rw [HRAW.out, HD.out]
            · unfold okS
              rw [HRAW.out, HSZ.out, ← HD.out, HOK.out, Int.toNat_natCast, ← HM.out, decide_eq_true (by have := HK48.out; omega)]
              rfl
          have hrr := R_other HR12.out HZ.out (by decide) (five_but (.int .i64 k) (.int .i64 e) (.int .i64 n) (.int .i64 lf) (.slice A7 sn c7))
          exact ⟨_, by rw [hr5]; rfl, by rw [hr5]; exact Kd.R_mono (Kd.R_lower hrr HB1.out.size) (fun _ _ => trivial), five_below HBW.out (Nat.le_refl _) _ _ _ _ _⟩
        · have hgt : 0 < m := by omega
          have hgd : decide (0 < m) = true := decide_eq_true hgt
          go_wp2_with fail
          refine hmx.mono ?_
          clear hmx
          rintro z w13 ⟨rfl, hw13⟩
          obtain rfl : w13 = w12 := hw13
          have z0 : w13.cell? ⟨w.heap.size, 0, none⟩ = some (.int .i64 0) := cell_blk HZ.out
          have z1 : w13.cell? ⟨w.heap.size, 1, none⟩ = some (.int .i64 0) := cell_blk HZ.out
          have z2 : w13.cell? ⟨w.heap.size, 2, none⟩ = some (.int .i64 0) := cell_blk HZ.out
          have z3 : w13.cell? ⟨w.heap.size, 3, none⟩ = some (.int .i64 0) := cell_blk HZ.out
          have z4 : w13.cell? ⟨w.heap.size, 4, none⟩ = some (.slice none 0 0) := cell_blk HZ.out
          have f0 : w13.frozen? ⟨w.heap.size, 0, none⟩ = false := frozen_blk HZ.out
          have f1 : w13.frozen? ⟨w.heap.size, 1, none⟩ = false := frozen_blk HZ.out
          have f2 : w13.frozen? ⟨w.heap.size, 2, none⟩ = false := frozen_blk HZ.out
          have f3 : w13.frozen? ⟨w.heap.size, 3, none⟩ = false := frozen_blk HZ.out
          have f4 : w13.frozen? ⟨w.heap.size, 4, none⟩ = false := frozen_blk HZ.out
          have HR5 := Aside0.mk (show r = (zeroS, 5) by rw [HQ.out, if_neg]; unfold okS; rw [HSZ.out, Int.toNat_natCast, ← HM.out, decide_eq_false h0, Bool.and_false, Bool.and_false]; decide)
          go_wp2_with fail
          refine bodyPost_ret (results_ct rfl _ _ w.heap.size 69 #[.int .i64 0, .int .i64 0, .int .i64 0, .int .i64 0, .slice none 0 0] (0, 0) _ rfl (five_set HZ.out _ _ _ _ _) Try.underlying69 rfl (by kernel_rfl)) rfl ?_
          exact ⟨_, by rw [HR5.out]; rfl, by rw [HR5.out]; exact Kd.R_nil _ _ _ _ _, five_below HBW.out (Nat.le_refl _) _ _ _ _ _⟩
      · have hok' : secOk k e n lf d = false := by simpa using hok
        rw [hok'] at hm
        refine hm.mono ?_
        clear hm x0 x1 x2 x3 x4
        rintro z w9 ⟨rfl, b9⟩
        have HR5 := Aside0.mk (show r = (zeroS, 5) by rw [HQ.out, if_neg]; unfold okS; rw [HRAW.out, HSZ.out, ← HD.out, hok', Bool.false_and, Bool.and_false]; decide)
        have hg := HG.out.step b9
        clear HG b9 hok hok' HXB HR8
        have HG := Aside0.mk hg
        clear hg
        have hz := HG.out.zero
        have z0 : w9.cell? ⟨w.heap.size, 0, none⟩ = some (.int .i64 0) := cell_blk hz
        have z1 : w9.cell? ⟨w.heap.size, 1, none⟩ = some (.int .i64 0) := cell_blk hz
        have z2 : w9.cell? ⟨w.heap.size, 2, none⟩ = some (.int .i64 0) := cell_blk hz
        have z3 : w9.cell? ⟨w.heap.size, 3, none⟩ = some (.int .i64 0) := cell_blk hz
        have z4 : w9.cell? ⟨w.heap.size, 4, none⟩ = some (.slice none 0 0) := cell_blk hz
        have f0 : w9.frozen? ⟨w.heap.size, 0, none⟩ = false := frozen_blk hz
        have f1 : w9.frozen? ⟨w.heap.size, 1, none⟩ = false := frozen_blk hz
        have f2 : w9.frozen? ⟨w.heap.size, 2, none⟩ = false := frozen_blk hz
        have f3 : w9.frozen? ⟨w.heap.size, 3, none⟩ = false := frozen_blk hz
        have f4 : w9.frozen? ⟨w.heap.size, 4, none⟩ = false := frozen_blk hz
        clear hz
        go_wp2_with fail
        refine bodyPost_ret (results_ct rfl _ _ w.heap.size 69 #[.int .i64 0, .int .i64 0, .int .i64 0, .int .i64 0, .slice none 0 0] (0, 0) _ rfl (five_set HG.out.zero _ _ _ _ _) Try.underlying69 rfl (by kernel_rfl)) rfl ?_
        exact ⟨_, by rw [HR5.out]; rfl, by rw [HR5.out]; exact Kd.R_nil _ _ _ _ _, five_below HG.out.below (Nat.le_refl _) _ _ _ _ _⟩
  · have HNO := Aside0.mk (show takeOk (own.drop 12) false (sn : Int) = false by
      unfold takeOk
      rw [decide_eq_false (p := (sn : Int) ≤ ((own.drop 12).length : Int)) (by rw [List.length_drop, HLO.out]; omega), Bool.and_false, Bool.and_false])
    have HK48 := Aside0.mk hk48
    clear hk48
    go_upto_region 8 with (fail)
    go_cut [8] from 28 to 45 (fun v8 wc => ∃ (xb : Nat), v8 = .pointer (some ⟨xb, 0, none⟩) ∧ Aside0 (GT w wc w1.heap.size cb [] true))
    case first =>
      refine Go.Reg.region_fork (Only cb w4) [.s, .s, .s, .s, .s, .s, .s, .s, .s, .s, .s, .s, .s, .s, .s, .s, .w, .p, .w, .x] [0, 1, 2, 3, 4, 5, 6, 7, 8, 9, 10, 11, 12, 13, 14, 15] 16 18 [17, 18, 19] [16, 17, 19] (by kernel_rfl) (by kernel_rfl) (.of_below (below_drew1 (Below.refl _ _))) (fun ne => ?_)
      have hm : ∀ (j : Nat) (v : Int), j < 5 → ([k, (sn : Int), lf, e, n] : List Int).getD j 0 = v → ∀ m : Go.Reg.In (Only cb w4), m.w.cell? ⟨gl, j, none⟩ = some (.int .i64 v) := fun j v hj hv m => by
        have h1 := HI.out j v hj hv
        rw [cell_blk HGB.out] at h1
        rw [cell_blk ((m.h.block gl (blk_lt HGB.out) HGL.out).trans HGB.out)]
        exact h1
      have hm0 := hm 0 k (by decide) rfl
      have hm1 := hm 1 (sn : Int) (by decide) rfl
      have hm2 := hm 2 lf (by decide) rfl
      have hm3 := hm 3 e (by decide) rfl
      have hm4 := hm 4 n (by decide) rfl
      clear hm
      dsimp only [Go.Reg.pick, List.filterMap, List.map, List.getD_eq_getElem?_getD]
      simp only [List.getElem?_toArray, List.getElem?_cons_zero, List.getElem?_cons_succ, List.filterMap_cons, List.filterMap_nil, Option.getD_some]
      refine Go.Reg.lex_q 16 _ _ _ _ (by rfl) ?_; simp only [List.take_succ_cons, List.take_zero, List.drop_succ_cons, List.drop_zero]; (repeat (go_big_quiet_step (rfl))); refine wpQuiet_nil ?_
      refine Go.Reg.lex_nil ?_
      clear hm0 hm1 hm2 hm3 hm4
      have HOD := Aside0.mk (Only.of_below (b := cb) (below_drew1 (Below.refl w4.heap.size w4)))
      have HGD := Aside0.mk (HG.out.step (below_drew1 (Below.refl w4.heap.size w4)))
      refine ⟨?_, ?_, fun o ho => ?_⟩
      · refine Go.Reg.step_w (fun KK hKK => ?_)
        go_wp2_with fail
        refine (take_no HGD.out.pc (sn : Int) HNO.out).mono ?_
        rintro z w5 ⟨rfl, hp, ho⟩
        have HO5 := Aside0.mk (HOD.out.trans ho)
        have HP5 := Aside0.mk hp
        clear hp ho
        go_wp2_with fail
        refine hKK.out _ _ HO5.out ?_
        clear hKK KK
        refine Go.Reg.lex_qp 1 _ _ _ _ _ (by rfl) ?_; simp only [List.take_succ_cons, List.take_zero, List.drop_succ_cons, List.drop_zero]; (repeat (go_big_quiet_step (rfl))); refine wpQuiet_nil ?_
        refine Go.Reg.step_w (fun KK hKK => ?_)
        go_wp2_with fail
        have hal := (Below.refl w5.heap.size w5).alloc (Nat.le_refl _) (.cells #[.int .i64 0, .int .i64 0, .int .i64 0, .int .i64 0, .slice none 0 0] 69)
        have hnb := heap_alloc_new w5 (.cells #[.int .i64 0, .int .i64 0, .int .i64 0, .int .i64 0, .slice none 0 0] 69)
        obtain ⟨w6, hw6⟩ : ∃ w6, w6 = w5.alloc (.cells #[.int .i64 0, .int .i64 0, .int .i64 0, .int .i64 0, .slice none 0 0] 69) := ⟨_, rfl⟩
        rw [← hw6] at hal hnb
        rw [← hw6]
        have HO6 := Aside0.mk (HO5.out.trans (.of_below hal))
        have HP6 := Aside0.mk (HP5.out.only (b := 0) hal)
        have hub := HO5.out.size
        obtain ⟨xb, hxb⟩ : ∃ xb, xb = w5.heap.size := ⟨_, rfl⟩
        rw [← hxb] at hnb hub
        rw [← hxb]
        have HNB := Aside0.mk hnb
        have HUB := Aside0.mk hub
        clear hw6 hal hnb hxb hub
        refine hKK.out _ _ HO6.out ?_
        clear hKK KK
        have e0 : w6.cell? ⟨xb, 0, none⟩ = some (.int .i64 0) := cell_blk HNB.out
        have e1 : w6.cell? ⟨xb, 1, none⟩ = some (.int .i64 0) := cell_blk HNB.out
        have e2 : w6.cell? ⟨xb, 2, none⟩ = some (.int .i64 0) := cell_blk HNB.out
        have e3 : w6.cell? ⟨xb, 3, none⟩ = some (.int .i64 0) := cell_blk HNB.out
        have e4 : w6.cell? ⟨xb, 4, none⟩ = some (.slice none 0 0) := cell_blk HNB.out
        have g0 : w6.frozen? ⟨xb, 0, none⟩ = false := frozen_blk HNB.out
        have g1 : w6.frozen? ⟨xb, 1, none⟩ = false := frozen_blk HNB.out
        have g2 : w6.frozen? ⟨xb, 2, none⟩ = false := frozen_blk HNB.out
        have g3 : w6.frozen? ⟨xb, 3, none⟩ = false := frozen_blk HNB.out
        have g4 : w6.frozen? ⟨xb, 4, none⟩ = false := frozen_blk HNB.out
        refine Go.Reg.step_x (by rfl) (fun KK hKK => ?_)
        go_wp2_with fail
        refine hKK.out _ _ ?_
        clear hKK KK
        try simp only [Act.put, List.setIfInBounds_toArray, List.set_cons_succ, List.set_cons_zero]
        refine Go.Reg.lex_nil ?_
        clear e0 e1 e2 e3 e4 g0 g1 g2 g3 g4
        go_wp2_with fail
        go_meet
        case rel =>
          exact ⟨xb, rfl, ⟨HG.out.only (sets5 HO6.out HUB.out _ _ _ _ _) (pc_other HP6.out HNB.out (five_but _ _ _ _ _))⟩⟩
      · refine Go.Reg.step_w (fun KK hKK => ?_)
        go_wp2_with fail
        obtain ⟨w5, hw5⟩ : ∃ w5, w5 = (w4.alloc (.cells #[.int .i64 0, .int .i64 0, .int .i64 0, .int .i64 0, .slice none 0 0] 69)).drew := ⟨_, rfl⟩
        have hal : Below w4.drew.heap.size w4.drew w5 := by rw [hw5]; exact (Below.refl w4.drew.heap.size w4.drew).alloc (Nat.le_refl _) (.cells #[.int .i64 0, .int .i64 0, .int .i64 0, .int .i64 0, .slice none 0 0] 69)
        have hnb : w5.heap[w4.heap.size]? = some (.cells #[.int .i64 0, .int .i64 0, .int .i64 0, .int .i64 0, .slice none 0 0] 69 (0, 0)) := by rw [hw5]; exact heap_alloc_new w4.drew (.cells #[.int .i64 0, .int .i64 0, .int .i64 0, .int .i64 0, .slice none 0 0] 69)
        rw [← hw5]
        have HO5 := Aside0.mk (HOD.out.trans (.of_below hal))
        have HGE := Aside0.mk (HGD.out.step hal)
        obtain ⟨xb, hxb⟩ : ∃ xb, xb = w4.heap.size := ⟨_, rfl⟩
        have hub : w4.heap.size ≤ xb := by omega
        have HNB5 := Aside0.mk hnb
        have HUB := Aside0.mk hub
        rw [← hxb] at HNB5
        rw [← hxb]
        have HXC := Aside0.mk (show xb ≠ cb by have := HG.out.cur; omega)
        clear hw5 hal hnb hxb hub
        refine hKK.out _ _ HO5.out ?_
        clear hKK KK
        refine Go.Reg.step_w (fun KK hKK => ?_)
        go_wp2_with fail
        refine (take_no HGE.out.pc (sn : Int) HNO.out).mono ?_
        rintro z w6 ⟨rfl, hp, ho⟩
        have HO6 := Aside0.mk (HO5.out.trans ho)
        have HP6 := Aside0.mk hp
        have HNB := Aside0.mk ((ho.block xb (blk_lt HNB5.out) HXC.out).trans HNB5.out)
        clear hp ho
        go_wp2_with fail
        refine hKK.out _ _ HO6.out ?_
        clear hKK KK
        refine Go.Reg.lex_qp 1 _ _ _ _ _ (by rfl) ?_; simp only [List.take_succ_cons, List.take_zero, List.drop_succ_cons, List.drop_zero]; (repeat (go_big_quiet_step (rfl))); refine wpQuiet_nil ?_
        have e0 : w6.cell? ⟨xb, 0, none⟩ = some (.int .i64 0) := cell_blk HNB.out
        have e1 : w6.cell? ⟨xb, 1, none⟩ = some (.int .i64 0) := cell_blk HNB.out
        have e2 : w6.cell? ⟨xb, 2, none⟩ = some (.int .i64 0) := cell_blk HNB.out
        have e3 : w6.cell? ⟨xb, 3, none⟩ = some (.int .i64 0) := cell_blk HNB.out
        have e4 : w6.cell? ⟨xb, 4, none⟩ = some (.slice none 0 0) := cell_blk HNB.out
        have g0 : w6.frozen? ⟨xb, 0, none⟩ = false := frozen_blk HNB.out
        have g1 : w6.frozen? ⟨xb, 1, none⟩ = false := frozen_blk HNB.out
        have g2 : w6.frozen? ⟨xb, 2, none⟩ = false := frozen_blk HNB.out
        have g3 : w6.frozen? ⟨xb, 3, none⟩ = false := frozen_blk HNB.out
        have g4 : w6.frozen? ⟨xb, 4, none⟩ = false := frozen_blk HNB.out
        refine Go.Reg.step_x (by rfl) (fun KK hKK => ?_)
        go_wp2_with fail
        refine hKK.out _ _ ?_
        clear hKK KK
        try simp only [Act.put, List.setIfInBounds_toArray, List.set_cons_succ, List.set_cons_zero]
        refine Go.Reg.lex_nil ?_
        clear e0 e1 e2 e3 e4 g0 g1 g2 g3 g4
        go_wp2_with fail
        go_meet
        case rel =>
          exact ⟨xb, rfl, ⟨HG.out.only (sets5 HO6.out HUB.out _ _ _ _ _) (pc_other HP6.out HNB.out (five_but _ _ _ _ _))⟩⟩
      · rcases ho with ho | ho <;> (cases ho; rfl)
    case rest =>
      obtain ⟨xb, rfl, HG⟩ := hcut
      have HR5 := Aside0.mk (show r = (zeroS, 5) by rw [HQ.out, if_neg]; unfold okS; rw [HSZ.out, decide_eq_false (by have := HK48.out; omega), Bool.false_and]; decide)
      go_wp2_with fail
      refine (bad_any HG.out.pc).mono ?_
      rintro z w8 ⟨rfl, hw8⟩
      obtain rfl : w8 = wc := hw8
      have z0 : w8.cell? ⟨w.heap.size, 0, none⟩ = some (.int .i64 0) := cell_blk HG.out.zero
      have z1 : w8.cell? ⟨w.heap.size, 1, none⟩ = some (.int .i64 0) := cell_blk HG.out.zero
      have z2 : w8.cell? ⟨w.heap.size, 2, none⟩ = some (.int .i64 0) := cell_blk HG.out.zero
      have z3 : w8.cell? ⟨w.heap.size, 3, none⟩ = some (.int .i64 0) := cell_blk HG.out.zero
      have z4 : w8.cell? ⟨w.heap.size, 4, none⟩ = some (.slice none 0 0) := cell_blk HG.out.zero
      have f0 : w8.frozen? ⟨w.heap.size, 0, none⟩ = false := frozen_blk HG.out.zero
      have f1 : w8.frozen? ⟨w.heap.size, 1, none⟩ = false := frozen_blk HG.out.zero
      have f2 : w8.frozen? ⟨w.heap.size, 2, none⟩ = false := frozen_blk HG.out.zero
      have f3 : w8.frozen? ⟨w.heap.size, 3, none⟩ = false := frozen_blk HG.out.zero
      have f4 : w8.frozen? ⟨w.heap.size, 4, none⟩ = false := frozen_blk HG.out.zero
      go_wp2_with fail
      refine bodyPost_ret (results_ct rfl _ _ w.heap.size 69 #[.int .i64 0, .int .i64 0, .int .i64 0, .int .i64 0, .slice none 0 0] (0, 0) _ rfl (five_set HG.out.zero _ _ _ _ _) Try.underlying69 rfl (by kernel_rfl)) rfl ?_
      exact ⟨_, by rw [HR5.out]; rfl, by rw [HR5.out]; exact Kd.R_nil _ _ _ _ _, five_below HG.out.below (Nat.le_refl _) _ _ _ _ _⟩
end Sect
end Go.Proofs.Ytopfjmeejpamjaa
end
section
namespace Go.Proofs.Ytopfjmeejpamjaa
set_option linter.unusedVariables false
set_option linter.unusedSimpArgs false
set_option linter.ambiguousOpen false
open Go.RowKit Go.Proofs.YtopfjmeejpamjaaW.PrintWords Go.Proofs.YtopfjmeejpamjaaW.PrintLast Go.Proofs.YtopfjmeejpamjaaW.PrintMore
namespace Sect
open Go.Num Go.Crc Go.Proofs.Ytopfjmeejpamjaa.Cell
theorem put_body {k e n l : Int} {d : List Int} (h : secOk k e n l d = true) : putS k e n l d = (sealB (bodyS k e n l d), 0) := by unfold putS; rw [if_pos h]
theorem body_eq (k e n l : Int) (d : List Int) : bodyS k e n l d = leB k 1 ++ (leB (d.length : Int) 1 ++ (leB l 2 ++ (leB e 4 ++ (leB n 4 ++ (d ++ List.replicate (48 - d.length) 0))))) := by
  unfold bodyS headS
  simp
theorem num_le (v : Int) (j : Nat) (h0 : 0 ≤ v) (h1 : v ≤ 2147483647) (hj1 : 1 ≤ j) (hj : j ≤ 4) (hs : v < 256 ^ j) : numP (leB v j) = v := by
  unfold numP
  rw [unfix_le v h0 h1 j hj1 hj hs]
  rfl
theorem num_of (ys : List Int) (hb : ∀ x ∈ ys, 0 ≤ x ∧ x ≤ 255) (j : Nat) (hl : ys.length = j) (h : 0 ≤ numP ys) : (unfixP ys).2 = 0 ∧ numP ys = (unfixP ys).1 ∧ leB (numP ys) j = ys := by
  have h2 : (unfixP ys).2 = 0 := Classical.byContradiction (fun e => by
    unfold numP at h
    rw [if_pos e] at h
    omega)
  have h3 : numP ys = (unfixP ys).1 := by unfold numP; rw [if_neg (by simp [h2])]
  exact ⟨h2, h3, by rw [h3]; exact unfix_leB ys hb j hl h2⟩
theorem raw_body (k e n l : Int) (d : List Int) (h : secOk k e n l d = true) : rawS (bodyS k e n l d) = ⟨k, e, n, l, d⟩ ∧ okS (bodyS k e n l d) = true := by
  obtain ⟨h1, h2, h3, h4, h5, h6, h7, h8, h9⟩ := ok_parts h
  obtain ⟨B, hB⟩ : ∃ B, B = bodyS k e n l d := ⟨_, rfl⟩
  rw [← hB]
  rw [body_eq] at hB
  have p1 : (256 : Int) ^ 1 = 256 := by decide
  have p : (256 : Int) ^ 2 = 65536 := by decide
  have p4 : (256 : Int) ^ 4 = 4294967296 := by decide
  obtain ⟨a1, b1⟩ := cut2 1 hB (leB_len _ _)
  obtain ⟨a2, b2⟩ := cut2 1 b1 (leB_len _ _)
  obtain ⟨a3, b3⟩ := cut2 2 b2 (leB_len _ _)
  obtain ⟨a4, b4⟩ := cut2 4 b3 (leB_len _ _)
  obtain ⟨a5, b5⟩ := cut2 4 b4 (leB_len _ _)
  obtain ⟨a6, b6⟩ := cut2 d.length b5 rfl
  simp only [List.drop_drop] at a2 a3 a4 a5 a6 b6
  have hs : sizeS B = (d.length : Int) := by
    unfold sizeS
    rw [a2, num_le _ 1 (by omega) (by omega) (by omega) (by omega) (by omega)]
  have hr : rawS B = ⟨k, e, n, l, d⟩ := by
    unfold rawS
    rw [hs, Int.toNat_natCast, List.drop_zero, a1, show (B.drop 12).take d.length = d from a6, show (B.drop 2).take 2 = leB l 2 from a3, show (B.drop 4).take 4 = leB e 4 from a4, show (B.drop 8).take 4 = leB n 4 from a5, num_le k 1 (by omega) (by omega) (by omega) (by omega) (by omega), num_le l 2 (by omega) (by omega) (by omega) (by omega) (by omega), num_le e 4 (by omega) (by omega) (by omega) (by omega) (by omega), num_le n 4 (by omega) (by omega) (by omega) (by omega) (by omega)]
  refine ⟨hr, ?_⟩
  unfold okS
  rw [hr, hs, Int.toNat_natCast, h, decide_eq_true (by omega)]
  have e : B.drop (12 + d.length) = List.replicate (48 - d.length) 0 := by
    rw [← b6]
  rw [e, maxL_rep]
  rfl
theorem get_put (k e n l : Int) (d : List Int) (h : secOk k e n l d = true) : getS (putS k e n l d).1 = (⟨k, e, n, l, d⟩, 0) := by
  obtain ⟨h1, h2⟩ := raw_body k e n l d h
  rw [put_body h]
  unfold getS
  rw [if_neg (by rw [seal_len, bodyS_len _ _ _ _ _ (ok_parts h).2.2.2.2.2.2.2.2]; decide), open_seal, if_neg (by simp), if_pos h2, h1]
theorem own_len {l : List Int} (hl : l.length = 64) (h : (openP l).2 = 0) : (openP l).1.length = 60 := by rw [(open_len l h).1, List.length_take, hl]; omega
theorem body_raw (own : List Int) (hl : own.length = 60) (hb : ∀ x ∈ own, 0 ≤ x ∧ x ≤ 255) (hs : sizeS own ≤ 48) (hc : secOk (rawS own).k (rawS own).e (rawS own).n (rawS own).l (rawS own).d = true) :
    bodyS (rawS own).k (rawS own).e (rawS own).n (rawS own).l (rawS own).d = own ↔ maxL (own.drop (12 + (sizeS own).toNat)) = 0 := by
  obtain ⟨h1, h2, h3, h4, h5, h6, h7, h8, h9⟩ := ok_parts hc
  have hlen : ∀ i j : Nat, i + j ≤ 60 → ((own.drop i).take j).length = j := fun i j h => by rw [List.length_take, List.length_drop, hl]; omega
  have hz1 := unfix1 ((own.drop 1).take 1) (hlen 1 1 (by omega)) (take_byte hb 1 1)
  have hsz : sizeS own = unB ((own.drop 1).take 1) := by unfold sizeS numP; rw [hz1.1]; rfl
  have g0 : leB (rawS own).k 1 = (own.drop 0).take 1 := (num_of _ (take_byte hb 0 1) 1 (hlen 0 1 (by omega)) (by show 0 ≤ (rawS own).k; omega)).2.2
  have g1 : leB (sizeS own) 1 = (own.drop 1).take 1 := (num_of _ (take_byte hb 1 1) 1 (hlen 1 1 (by omega)) (by show 0 ≤ sizeS own; rw [hsz]; exact hz1.2.1)).2.2
  have g2 : leB (rawS own).l 2 = (own.drop 2).take 2 := (num_of _ (take_byte hb 2 2) 2 (hlen 2 2 (by omega)) (by show 0 ≤ (rawS own).l; omega)).2.2
  have g4 : leB (rawS own).e 4 = (own.drop 4).take 4 := (num_of _ (take_byte hb 4 4) 4 (hlen 4 4 (by omega)) (by show 0 ≤ (rawS own).e; omega)).2.2
  have g8 : leB (rawS own).n 4 = (own.drop 8).take 4 := (num_of _ (take_byte hb 8 4) 4 (hlen 8 4 (by omega)) (by show 0 ≤ (rawS own).n; omega)).2.2
  have hsr : 0 ≤ sizeS own := by rw [hsz]; exact hz1.2.1
  have hdl : (rawS own).d.length = (sizeS own).toNat := by
    unfold rawS
    rw [List.length_take, List.length_drop, hl]
    omega
  have hds : ((rawS own).d.length : Int) = sizeS own := by rw [hdl]; omega
  have hsplit : own = (own.drop 0).take 1 ++ ((own.drop 1).take 1 ++ ((own.drop 2).take 2 ++ ((own.drop 4).take 4 ++ ((own.drop 8).take 4 ++ ((rawS own).d ++ own.drop (12 + (sizeS own).toNat)))))) := by
    have s0 : own.drop 0 = (own.drop 0).take 1 ++ own.drop 1 := by rw [show own.drop 1 = (own.drop 0).drop 1 by rw [List.drop_drop], List.take_append_drop]
    have s1 : own.drop 1 = (own.drop 1).take 1 ++ own.drop 2 := by rw [show own.drop 2 = (own.drop 1).drop 1 by rw [List.drop_drop], List.take_append_drop]
    have s2 : own.drop 2 = (own.drop 2).take 2 ++ own.drop 4 := by rw [show own.drop 4 = (own.drop 2).drop 2 by rw [List.drop_drop], List.take_append_drop]
    have s4 : own.drop 4 = (own.drop 4).take 4 ++ own.drop 8 := by rw [show own.drop 8 = (own.drop 4).drop 4 by rw [List.drop_drop], List.take_append_drop]
    have s8 : own.drop 8 = (own.drop 8).take 4 ++ own.drop 12 := by rw [show own.drop 12 = (own.drop 8).drop 4 by rw [List.drop_drop], List.take_append_drop]
    have s12 : own.drop 12 = (rawS own).d ++ own.drop (12 + (sizeS own).toNat) := by
      unfold rawS
      rw [← List.drop_drop, List.take_append_drop]
    rw [← s12, ← s8, ← s4, ← s2, ← s1, ← s0, List.drop_zero]
  rw [body_eq, g0, g2, g4, g8, hds, g1]
  have hrl : (own.drop (12 + (sizeS own).toNat)).length = 48 - (rawS own).d.length := by
    rw [List.length_drop, hl, hdl]; omega
  constructor
  · intro h
    have h' := List.append_cancel_left (List.append_cancel_left (List.append_cancel_left (List.append_cancel_left (List.append_cancel_left (List.append_cancel_left (h.trans hsplit))))))
    rw [← h', maxL_rep]
  · intro h
    have hz := all_zero _ (fun x hx => hb x (List.mem_of_mem_drop hx)) h
    rw [hrl] at hz
    rw [← hz, ← hsplit]
theorem okS_iff (own : List Int) (hl : own.length = 60) (hb : ∀ x ∈ own, 0 ≤ x ∧ x ≤ 255) :
    okS own = true ↔ (unfixP ((own.drop 4).take 4)).2 = 0 ∧ (unfixP ((own.drop 8).take 4)).2 = 0 ∧ sizeS own ≤ 48 ∧ (putS (rawS own).k (rawS own).e (rawS own).n (rawS own).l (rawS own).d).2 = 0 ∧ (putS (rawS own).k (rawS own).e (rawS own).n (rawS own).l (rawS own).d).1 = sealB own := by
  have hlen : ∀ i j : Nat, i + j ≤ 60 → ((own.drop i).take j).length = j := fun i j h => by rw [List.length_take, List.length_drop, hl]; omega
  constructor
  · intro h
    unfold okS at h
    simp only [Bool.and_eq_true, decide_eq_true_eq] at h
    obtain ⟨h1, h2, h3⟩ := h
    obtain ⟨q1, q2, q3, q4, q5, q6, q7, q8, q9⟩ := ok_parts h2
    have e4 := (num_of _ (take_byte hb 4 4) 4 (hlen 4 4 (by omega)) (show 0 ≤ (rawS own).e by omega)).1
    have e8 := (num_of _ (take_byte hb 8 4) 4 (hlen 8 4 (by omega)) (show 0 ≤ (rawS own).n by omega)).1
    refine ⟨e4, e8, h1, ?_, ?_⟩
    · rw [put_body h2]
    · rw [put_body h2, (body_raw own hl hb h1 h2).2 h3]
  · rintro ⟨_, _, h1, h2, h3⟩
    have hc : secOk (rawS own).k (rawS own).e (rawS own).n (rawS own).l (rawS own).d = true := by
      by_cases h : secOk (rawS own).k (rawS own).e (rawS own).n (rawS own).l (rawS own).d = true
      · exact h
      · unfold putS at h2
        rw [if_neg h] at h2
        cases h2
    rw [put_body hc] at h3
    have := (body_raw own hl hb h1 hc).1 (seal_inj h3)
    unfold okS
    rw [decide_eq_true h1, hc, decide_eq_true this]
    rfl
theorem put_get (l : List Int) (hb : ∀ x ∈ l, 0 ≤ x ∧ x ≤ 255) (h : (getS l).2 = 0) : putS (getS l).1.k (getS l).1.e (getS l).1.n (getS l).1.l (getS l).1.d = (l, 0) := by
  unfold getS at *
  split at h
  · cases h
  · rename_i hl
    rw [if_neg hl]
    split at h
    · rename_i h2; exact absurd h h2
    · rename_i h2
      rw [if_neg h2]
      have h2' : (openP l).2 = 0 := Classical.not_not.1 h2
      split at h
      · rename_i h3
        rw [if_pos h3]
        obtain ⟨_, _, _, h4, h5⟩ := (okS_iff _ (own_len (Classical.not_not.1 hl) h2') (own_byte hb h2')).1 h3
        rw [← open_ok l h2'] at h5
        exact Prod.ext h5 h4
      · cases h
end Sect
end Go.Proofs.Ytopfjmeejpamjaa
end
section
namespace Go.Proofs.Ytopfjmeejpamjaa
set_option linter.unusedVariables false
set_option linter.unusedSimpArgs false
set_option linter.ambiguousOpen false
open Go.RowKit Go.Proofs.YtopfjmeejpamjaaW.PrintWords Go.Proofs.YtopfjmeejpamjaaW.PrintLast Go.Proofs.YtopfjmeejpamjaaW.PrintMore
namespace Sect
open Go.Num Go.Crc Go.Proofs.Ytopfjmeejpamjaa.Cell
theorem xput_l0 : ∀ (j : Nat) (b : List Int), b.length + j = 60 → (∀ x ∈ b, 0 ≤ x ∧ x ≤ 255) → PSectorGets.chantryref07_Put.l0 (661 + j + 1) b = some (sealB (b ++ List.replicate j 0), 0)
  | 0, b, h, hb => by
    rw [PSectorGets.chantryref07_Put.l0, if_neg (by omega)]
    have := xseal_plain 0 b hb (by omega)
    rw [show 0 + 11 * b.length + 1 = 661 by omega] at this
    rw [show PSectorGets.chantryref02_Seal.f (661 + 0) b = some (sealB b) from this]
    simp
  | j + 1, b, h, hb => by
    rw [show 661 + (j + 1) + 1 = (661 + j + 1) + 1 by omega]
    rw [PSectorGets.chantryref07_Put.l0]
    rw [if_pos (by omega), if_pos (by omega), xput_l0 j (b ++ [0]) (by rw [List.length_append]; show b.length + 1 + j = 60; omega) (fun x hx => by
      rcases List.mem_append.1 hx with hx | hx
      · exact hb x hx
      · rw [List.mem_singleton.1 hx]; omega)]
    rw [List.append_assoc, List.replicate_succ]
    rfl
theorem xmay_plain (k e n l : Int) (d : List Int) : PSectorGets.chantryref07_may.f k e n l d = some (secOk k e n l d) := by
  unfold PSectorGets.chantryref07_may.f secOk
  repeat' split
  all_goals first | (congr 1; exact decide_eq_decide.2 (by omega)) | (congr 1; exact (decide_eq_false (by omega)).symm)
theorem xput_plain (k e n l : Int) (d : List Int) (hb : ∀ y ∈ d, 0 ≤ y ∧ y ≤ 255) : ∃ f, PSectorGets.chantryref07_Put.f f k e n l d = some (putS k e n l d) := by
  by_cases hc : secOk k e n l d = true
  · obtain ⟨h1, h2, h3, h4, h5, h6, h7, h8, h9⟩ := ok_parts hc
    refine ⟨661 + (48 - d.length) + 1, ?_⟩
    unfold PSectorGets.chantryref07_Put.f
    rw [xmay_plain, hc, put_body hc]
    simp only [Option.bind_some, if_true]
    have q1 : PSectorGets.chantryref01_Fix.f (661 + (48 - d.length) + 1) l 2 = some (leB l 2, 0) := by
      show PCellGets.chantryref01_Fix.f _ _ _ = _
      rw [xfix_any _ (by omega), show (2 : Int) = ((2 : Nat) : Int) from rfl, fix_ok l 2 (by omega) ⟨h3, by omega, by omega⟩]
    have q2 : PSectorGets.chantryref01_Fix.f (661 + (48 - d.length) + 1) e 4 = some (leB e 4, 0) := by
      show PCellGets.chantryref01_Fix.f _ _ _ = _
      rw [xfix_any _ (by omega), show (4 : Int) = ((4 : Nat) : Int) from rfl, fix_ok e 4 (by omega) ⟨h5, by omega, by omega⟩]
    have q3 : PSectorGets.chantryref01_Fix.f (661 + (48 - d.length) + 1) n 4 = some (leB n 4, 0) := by
      show PCellGets.chantryref01_Fix.f _ _ _ = _
      rw [xfix_any _ (by omega), show (4 : Int) = ((4 : Nat) : Int) from rfl, fix_ok n 4 (by omega) ⟨h7, by omega, by omega⟩]
    rw [q1, q2, q3]
    simp only [Option.bind_some]
    have hh : [k % 256, (d.length : Int) % 256] ++ leB l 2 ++ leB e 4 ++ leB n 4 ++ d = headS k e n l d ++ d := by
      unfold headS
      rw [leB1_eq k, leB1_eq (d.length : Int)]
      simp
    rw [if_pos (by simp [leB_len]), if_pos (by simp [leB_len]), if_pos (by simp [leB_len]), if_pos (by simp [leB_len]; omega), hh]
    rw [xput_l0 _ _ (by rw [List.length_append, headS_len]; omega) (fun y hy => by
      rcases List.mem_append.1 hy with h | h
      · exact headS_byte _ _ _ _ _ y h
      · exact hb y h)]
    rfl
  · refine ⟨0, ?_⟩
    unfold PSectorGets.chantryref07_Put.f putS
    rw [xmay_plain, Bool.eq_false_iff.2 hc]
    rfl
theorem xput_any {w : World} (k e n l : Int) (A : Option Addr) (c : Nat) (d : List Int) (hC : Kd.C (Kd.int .u8) w A d.length d) (hc : d.length ≤ c) (hb : ∀ y ∈ d, 0 ≤ y ∧ y ≤ 255) :
    Calls Try.prog 30 #[.agg #[.int .i64 k, .int .i64 e, .int .i64 n, .int .i64 l, .slice A d.length c]] w fun z w' => ∃ v, z = .returned (.tuple #[v, .int .i64 (putS k e n l d).2]) ∧ Kd.R (Kd.int .u8) 5 w' w.heap.size (fun _ => True) v (putS k e n l d).1 ∧ Below w.heap.size w w' := by
  obtain ⟨f, hf⟩ := xput_plain k e n l d hb
  exact PSectorGets.chantryref07_Put.calls f k e n l A c d _ _ w hC hc hf
end Sect
end Go.Proofs.Ytopfjmeejpamjaa
end
section
namespace Go.Proofs.Ytopfjmeejpamjaa
set_option linter.unusedVariables false
set_option linter.unusedSimpArgs false
set_option linter.ambiguousOpen false
open Go.RowKit Go.Proofs.YtopfjmeejpamjaaW.PrintWords Go.Proofs.YtopfjmeejpamjaaW.PrintLast Go.Proofs.YtopfjmeejpamjaaW.PrintMore
namespace Sect
open Go.Num Go.Crc Go.Proofs.Ytopfjmeejpamjaa.Cell
theorem stable_R {w : World} {b : Nat} {ok : Nat → Prop} {A : Option Addr} {c t : Nat} {l : List Int} (h : Kd.R (Kd.int .u8) t w b ok (.slice A l.length c) l) : ∀ x, Below w.heap.size w x → Kd.C (Kd.int .u8) x A l.length l := fun x hx => by
  obtain ⟨A', c', e, hc⟩ := Kd.R_reads h
  cases e
  exact Kd.C_below hc.2 hx
theorem put_byte {k e n l : Int} {d : List Int} {P : List Int × Int} (hb : ∀ y ∈ d, 0 ≤ y ∧ y ≤ 255) (h : P = putS k e n l d) : ∀ y ∈ P.1, 0 ≤ y ∧ y ≤ 255 := by
  rw [h]
  unfold putS
  split
  · exact seal_byte (bodyS_byte _ _ _ _ _ hb)
  · intro y hy; cases hy
theorem get_any {w : World} (A : Option Addr) (c : Nat) (l : List Int) (hC : Kd.C (Kd.int .u8) w A l.length l) (hb : ∀ y ∈ l, 0 ≤ y ∧ y ≤ 255) (hc : l.length ≤ c) (hl : l.length ≤ 200000) :
    Calls Try.prog 31 #[.slice A l.length c] w fun e w' => ∃ A' c', e = .returned (.tuple #[.agg #[.int .i64 (getS l).1.k, .int .i64 (getS l).1.e, .int .i64 (getS l).1.n, .int .i64 (getS l).1.l, .slice A' (getS l).1.d.length c'], .int .i64 (getS l).2]) ∧ (getS l).1.d.length ≤ c' ∧ (∀ x, Below w'.heap.size w' x → Kd.C (Kd.int .u8) x A' (getS l).1.d.length (getS l).1.d) ∧ Below w.heap.size w w' := by
  by_cases h : l.length ≠ 64 ∨ (openP l).2 ≠ 0
  · refine (get_no A c l hC hb hc hl h).mono ?_
    rintro e w1 ⟨rfl, b⟩
    have hz : (getS l).1 = zeroS := by
      unfold getS
      by_cases h1 : l.length ≠ 64
      · rw [if_pos h1]
      · rw [if_neg h1, if_pos (h.resolve_left h1)]
    rw [hz]
    exact ⟨none, 0, rfl, Nat.le_refl _, fun x _ => nilC x, b⟩
  · have h1 : l.length = 64 := Classical.byContradiction (fun e => h (Or.inl e))
    have h2 : (openP l).2 = 0 := Classical.byContradiction (fun e => h (Or.inr e))
    refine (get_yes A c l hC hb hc h1 h2).mono ?_
    rintro e w1 ⟨v, rfl, hr, b⟩
    obtain ⟨A', c', rfl⟩ := Kd.R_slice hr
    exact ⟨A', c', rfl, (Kd.R_reads' hr).2.1, stable_R hr, b⟩
theorem get_byte (l : List Int) (hb : ∀ x ∈ l, 0 ≤ x ∧ x ≤ 255) : ∀ y ∈ (getS l).1.d, 0 ≤ y ∧ y ≤ 255 := by
  unfold getS
  split
  · intro y hy; simp [zeroS] at hy
  · split
    · intro y hy; simp [zeroS] at hy
    · rename_i h1 h2
      split
      · intro y hy
        exact own_byte hb (Classical.byContradiction h2) y (List.mem_of_mem_drop (List.mem_of_mem_take hy))
      · intro y hy; simp [zeroS] at hy
end Sect
end Go.Proofs.Ytopfjmeejpamjaa
end
section
namespace Go.Proofs.Ytopfjmeejpamjaa
set_option linter.unusedVariables false
set_option linter.unusedSimpArgs false
set_option linter.ambiguousOpen false
open Go.RowKit Go.Proofs.YtopfjmeejpamjaaW.PrintWords Go.Proofs.YtopfjmeejpamjaaW.PrintLast Go.Proofs.YtopfjmeejpamjaaW.PrintMore
namespace Sect
open Go.Num Go.Crc Go.Proofs.Ytopfjmeejpamjaa.Cell
structure GY (w0 w : World) (A : Option Addr) (c : Nat) (own : List Int) : Prop where
  below : Below w0.heap.size w0 w
  zero : w.heap[w0.heap.size]? = some (.cells #[.int .i64 0, .int .i64 0, .int .i64 0, .int .i64 0, .slice none 0 0] 69 (0, 0))
  row : ∀ x, Below w.heap.size w x → Kd.C (Kd.int .u8) x A own.length own
theorem GY.step {w0 w w' : World} {A : Option Addr} {c : Nat} {own : List Int} (h : GY w0 w A c own) (f : Below w.heap.size w w') : GY w0 w' A c own :=
  ⟨h.below.trans (f.mono h.below.size), (f.block _ (blk_lt h.zero)).trans h.zero, fun x hx => h.row x (f.trans (hx.mono f.size))⟩
theorem num1 (own : List Int) (hb : ∀ x ∈ own, 0 ≤ x ∧ x ≤ 255) (i : Nat) (hi : i < own.length) : numP ((own.drop i).take 1) = rd own (i : Int) := by
  have e : (own.drop i).take 1 = [own[i]] := by rw [List.drop_eq_getElem_cons hi]; rfl
  have h1 := unfix1 ((own.drop i).take 1) (by rw [e]; rfl) (take_byte hb i 1)
  unfold numP
  rw [h1.1, e, rd_get i hi]
  simp [unB]
theorem not8_5 (k : Nat) (v : Int) : (#[.int .i64 0, .int .i64 0, .int .i64 0, .int .i64 0, .slice none 0 0] : Array Value)[k]? ≠ some (.int .u8 v) := by
  intro h
  have h' : ([.int .i64 0, .int .i64 0, .int .i64 0, .int .i64 0, .slice none 0 0] : List Value)[k]? = some (.int .u8 v) := by simpa using h
  have := List.mem_of_getElem? h'
  simp at this
set_option maxHeartbeats 16000000 in
set_option maxRecDepth 100000 in
theorem xget_no {w : World} (A : Option Addr) (c : Nat) (l : List Int) (hC : Kd.C (Kd.int .u8) w A l.length l) (hb : ∀ y ∈ l, 0 ≤ y ∧ y ≤ 255) (hc : l.length ≤ c) (hl : l.length ≤ 200000) (hno : l.length ≠ 64 ∨ (openP l).2 ≠ 0) :
    Calls Try.prog 42 #[.slice A l.length c] w fun z w' => ∃ A' c', z = .returned (.tuple #[.agg #[.int .i64 (getS l).1.k, .int .i64 (getS l).1.e, .int .i64 (getS l).1.n, .int .i64 (getS l).1.l, .slice A' (getS l).1.d.length c'], .int .i64 (getS l).2]) ∧ (getS l).1.d.length ≤ c' ∧ (∀ x, Below w'.heap.size w' x → Kd.C (Kd.int .u8) x A' (getS l).1.d.length (getS l).1.d) ∧ Below w.heap.size w w' := by
  have HC := Aside0.mk hC
  have HBY := Aside0.mk hb
  clear hC hb
  obtain ⟨r, hr⟩ : ∃ r, r = getS l := ⟨_, rfl⟩
  rw [← hr]
  by_cases h64 : l.length ≠ 64
  · have HR5 := Aside0.mk (show r = (zeroS, 11) by rw [hr]; unfold getS; rw [if_pos h64])
    have hne : ((l.length : Int) != 64) = true := by simp; omega
    clear hr hno
    go_enter Try.func42, Try.ntmps42
    go_wp2_with fail
    refine bodyPost_ret (results_ct rfl _ _ w.heap.size 69 #[.int .i64 0, .int .i64 0, .int .i64 0, .int .i64 0, .slice none 0 0] (0, 0) _ rfl (heap_alloc_new w _) Try.underlying69 rfl (by kernel_rfl)) rfl ?_
    exact ⟨none, 0, by rw [HR5.out]; rfl, by rw [HR5.out]; exact Nat.le_refl _, fun x hx => by rw [HR5.out]; exact nilC x, (Below.refl _ _).alloc (Nat.le_refl _) _⟩
  · have h2 : l.length = 64 := by omega
    have h12 : (openP l).2 = 12 := by
      rcases open_err l with h | h
      · rcases hno with hn | hn
        · exact absurd h2 hn
        · exact absurd h hn
      · exact h
    have HR5 := Aside0.mk (show r = (zeroS, 12) by rw [hr]; unfold getS; rw [if_neg h64, if_pos (by rw [h12]; decide), h12])
    have HL := Aside0.mk h2
    have H12 := Aside0.mk h12
    rw [h2] at hc hl ⊢
    clear hr hno h64 h2 h12
    go_enter Try.func42, Try.ntmps42
    go_wp2_with fail
    obtain ⟨W, hW⟩ : ∃ W, W = w.alloc (.cells #[.int .i64 0, .int .i64 0, .int .i64 0, .int .i64 0, .slice none 0 0] 69) := ⟨_, rfl⟩
    have HB0 := Aside0.mk (show Below w.heap.size w W by rw [hW]; exact (Below.refl _ _).alloc (Nat.le_refl _) _)
    have HBX := Aside0.mk (show W.heap[w.heap.size]? = some (.cells #[.int .i64 0, .int .i64 0, .int .i64 0, .int .i64 0, .slice none 0 0] 69 (0, 0)) by rw [hW]; exact heap_alloc_new w _)
    rw [← hW]
    clear hW
    have hop := xopen_any A c l W (Kd.C_below HC.out HB0.out) HBY.out (by rw [HL.out]; omega) (by rw [HL.out]; omega)
    rw [HL.out, H12.out] at hop
    refine hop.mono ?_
    clear hop
    rintro e w1 ⟨A1, c1, rfl, _, _, b1⟩
    have HB1 := Aside0.mk (HB0.out.trans (b1.mono HB0.out.size))
    have HX1 := Aside0.mk ((b1.block _ (blk_lt HBX.out)).trans HBX.out)
    clear b1
    have z0 : w1.cell? ⟨w.heap.size, 0, none⟩ = some (.int .i64 0) := cell_blk HX1.out
    have z1 : w1.cell? ⟨w.heap.size, 1, none⟩ = some (.int .i64 0) := cell_blk HX1.out
    have z2 : w1.cell? ⟨w.heap.size, 2, none⟩ = some (.int .i64 0) := cell_blk HX1.out
    have z3 : w1.cell? ⟨w.heap.size, 3, none⟩ = some (.int .i64 0) := cell_blk HX1.out
    have z4 : w1.cell? ⟨w.heap.size, 4, none⟩ = some (.slice none 0 0) := cell_blk HX1.out
    have f0 : w1.frozen? ⟨w.heap.size, 0, none⟩ = false := frozen_blk HX1.out
    have f1 : w1.frozen? ⟨w.heap.size, 1, none⟩ = false := frozen_blk HX1.out
    have f2 : w1.frozen? ⟨w.heap.size, 2, none⟩ = false := frozen_blk HX1.out
    have f3 : w1.frozen? ⟨w.heap.size, 3, none⟩ = false := frozen_blk HX1.out
    have f4 : w1.frozen? ⟨w.heap.size, 4, none⟩ = false := frozen_blk HX1.out
    go_wp2_with fail
    refine bodyPost_ret (results_ct rfl _ _ w.heap.size 69 #[.int .i64 0, .int .i64 0, .int .i64 0, .int .i64 0, .slice none 0 0] (0, 0) _ rfl (five_set HX1.out _ _ _ _ _) Try.underlying69 rfl (by kernel_rfl)) rfl ?_
    exact ⟨none, 0, by rw [HR5.out]; rfl, by rw [HR5.out]; exact Nat.le_refl _, fun x hx => by rw [HR5.out]; exact nilC x, five_below HB1.out (Nat.le_refl _) _ _ _ _ _⟩
set_option maxHeartbeats 16000000 in
set_option maxRecDepth 100000 in
theorem xget_yes {w : World} (A : Option Addr) (c : Nat) (l : List Int) (hC : Kd.C (Kd.int .u8) w A l.length l) (hb : ∀ y ∈ l, 0 ≤ y ∧ y ≤ 255) (hc : l.length ≤ c) (h64 : l.length = 64) (h0 : (openP l).2 = 0) :
    Calls Try.prog 42 #[.slice A l.length c] w fun z w' => ∃ A' c', z = .returned (.tuple #[.agg #[.int .i64 (getS l).1.k, .int .i64 (getS l).1.e, .int .i64 (getS l).1.n, .int .i64 (getS l).1.l, .slice A' (getS l).1.d.length c'], .int .i64 (getS l).2]) ∧ (getS l).1.d.length ≤ c' ∧ (∀ x, Below w'.heap.size w' x → Kd.C (Kd.int .u8) x A' (getS l).1.d.length (getS l).1.d) ∧ Below w.heap.size w w' := by
  have HC := Aside0.mk hC
  have HBY := Aside0.mk hb
  have HL := Aside0.mk h64
  have H0 := Aside0.mk h0
  have HSE := Aside0.mk (open_ok l h0)
  obtain ⟨own, hown⟩ : ∃ own, own = (openP l).1 := ⟨_, rfl⟩
  have hlo : own.length = 60 := by rw [hown]; exact own_len h64 h0
  have hob : ∀ y ∈ own, 0 ≤ y ∧ y ≤ 255 := by rw [hown]; exact own_byte hb h0
  have HLO := Aside0.mk hlo
  have HOB := Aside0.mk hob
  obtain ⟨r, hr⟩ : ∃ r, r = getS l := ⟨_, rfl⟩
  rw [← hr]
  have HQ := Aside0.mk (show r = if okS own = true then (rawS own, 0) else (zeroS, 5) by rw [hr, hown]; unfold getS; rw [if_neg (by omega), if_neg (by omega)])
  have HOWN := Aside0.mk hown
  have HIFF := Aside0.mk (okS_iff own hlo hob)
  have hbt := fun (i : Nat) => rd_byte hob i
  obtain ⟨k, hk⟩ : ∃ z, z = rd own ((0 : Nat) : Int) := ⟨_, rfl⟩
  obtain ⟨lf, hlf⟩ : ∃ z, z = (unfixP ((own.drop 2).take 2)).1 := ⟨_, rfl⟩
  obtain ⟨e, he⟩ : ∃ z, z = (unfixP ((own.drop 4).take 4)).1 := ⟨_, rfl⟩
  obtain ⟨n, hn⟩ : ∃ z, z = (unfixP ((own.drop 8).take 4)).1 := ⟨_, rfl⟩
  obtain ⟨q4, hq4⟩ : ∃ z, z = (unfixP ((own.drop 4).take 4)).2 := ⟨_, rfl⟩
  obtain ⟨q8, hq8⟩ : ∃ z, z = (unfixP ((own.drop 8).take 4)).2 := ⟨_, rfl⟩
  have hsz : sizeS own = rd own ((1 : Nat) : Int) := num1 own hob 1 (by omega)
  obtain ⟨sn, hs⟩ : ∃ sn : Nat, (sn : Int) = rd own ((1 : Nat) : Int) := ⟨(rd own ((1 : Nat) : Int)).toNat, by have := (hbt 1).1; omega⟩
  have hs6 : sn ≤ 255 := by have := (hbt 1).2; omega
  have h22 := unfix2 ((own.drop 2).take 2) (by rw [List.length_take, List.length_drop, hlo]; omega) (take_byte hob 2 2)
  have HK := Aside0.mk hk
  have HSN := Aside0.mk hs
  have HLF := Aside0.mk hlf
  have HE := Aside0.mk he
  have HN := Aside0.mk hn
  have HQ4 := Aside0.mk hq4
  have HQ8 := Aside0.mk hq8
  have HSZ := Aside0.mk (show sizeS own = (sn : Int) from hsz.trans hs.symm)
  have HRAW := Aside0.mk (show q4 = 0 → q8 = 0 → rawS own = ⟨k, e, n, lf, (own.drop 12).take sn⟩ from fun a4 a8 => by
    unfold rawS
    rw [show sizeS own = (sn : Int) from hsz.trans hs.symm, Int.toNat_natCast, num1 own hob 0 (by omega), ← hk]
    have b4 : numP ((own.drop 4).take 4) = e := by unfold numP; rw [← hq4, a4, if_neg (by simp), he]
    have b8 : numP ((own.drop 8).take 4) = n := by unfold numP; rw [← hq8, a8, if_neg (by simp), hn]
    have b2 : numP ((own.drop 2).take 2) = lf := by unfold numP; rw [hlf, h22.1]; rfl
    rw [b4, b8, b2])
  clear hC hb h0 hown hlo hob hr hk hlf he hn hq4 hq8 hsz hs hbt h22
  rw [h64] at hc ⊢
  clear h64
  go_enter Try.func42, Try.ntmps42
  go_wp2_with fail
  obtain ⟨W, hW⟩ : ∃ W, W = w.alloc (.cells #[.int .i64 0, .int .i64 0, .int .i64 0, .int .i64 0, .slice none 0 0] 69) := ⟨_, rfl⟩
  have HB0 := Aside0.mk (show Below w.heap.size w W by rw [hW]; exact (Below.refl _ _).alloc (Nat.le_refl _) _)
  have HBX := Aside0.mk (show W.heap[w.heap.size]? = some (.cells #[.int .i64 0, .int .i64 0, .int .i64 0, .int .i64 0, .slice none 0 0] 69 (0, 0)) by rw [hW]; exact heap_alloc_new w _)
  rw [← hW]
  clear hW
  have hop := xopen_any A c l W (Kd.C_below HC.out HB0.out) HBY.out (by rw [HL.out]; omega) (by rw [HL.out]; omega)
  rw [HL.out, H0.out, ← HOWN.out, HLO.out] at hop
  refine hop.mono ?_
  clear hop
  rintro z w1 ⟨A1, c1, rfl, hc1, hrow, b1⟩
  obtain ⟨a, rfl⟩ : ∃ a, A1 = some a := by obtain ⟨a, ha, _⟩ := (hrow _ (Below.refl _ _)).2.2 (by omega); exact ⟨a, ha⟩
  have HG := Aside0.mk (show GY w w1 (some a) c1 own from ⟨HB0.out.trans (b1.mono HB0.out.size), (b1.block _ (blk_lt HBX.out)).trans HBX.out, fun x hx => by rw [HLO.out]; exact hrow x (below_steps b1 hx)⟩)
  clear hrow b1
  go_wp2_with fail
  have hu := xunfix_any (some (a.add 2)) (c1 - 2) ((own.drop 2).take 2) 2 (by rw [List.length_take, List.length_drop, HLO.out]; omega) (mid_C (HG.out.row _ (Below.refl _ _)) 2 2 (by rw [HLO.out]; omega)) (by omega) (take_byte HOB.out 2 2)
  rw [← HLF.out] at hu
  obtain ⟨q2, hq2⟩ : ∃ z, z = (unfixP ((own.drop 2).take 2)).2 := ⟨_, rfl⟩
  rw [← hq2] at hu
  clear hq2
  refine hu.mono ?_
  clear hu
  rintro z w2 ⟨rfl, b⟩
  have hg := HG.out.step b
  clear HG b
  have HG := Aside0.mk hg
  clear hg
  go_wp2_with fail
  have hu := xunfix_any (some (a.add 4)) (c1 - 4) ((own.drop 4).take 4) 4 (by rw [List.length_take, List.length_drop, HLO.out]; omega) (mid_C (HG.out.row _ (Below.refl _ _)) 4 4 (by rw [HLO.out]; omega)) (by omega) (take_byte HOB.out 4 4)
  rw [← HE.out] at hu
  rw [← HQ4.out] at hu
  refine hu.mono ?_
  clear hu
  rintro z w2 ⟨rfl, b⟩
  have hg := HG.out.step b
  clear HG b
  have HG := Aside0.mk hg
  clear hg
  go_wp2_with fail
  have hu := xunfix_any (some (a.add 8)) (c1 - 8) ((own.drop 8).take 4) 4 (by rw [List.length_take, List.length_drop, HLO.out]; omega) (mid_C (HG.out.row _ (Below.refl _ _)) 8 4 (by rw [HLO.out]; omega)) (by omega) (take_byte HOB.out 8 4)
  rw [← HN.out] at hu
  rw [← HQ8.out] at hu
  refine hu.mono ?_
  clear hu
  rintro z w2 ⟨rfl, b⟩
  have hg := HG.out.step b
  clear HG b
  have HG := Aside0.mk hg
  clear hg
  have hld : ∀ (x : World) (i : Nat), Below w2.heap.size w2 x → i < 60 → x.cell? (a.add i) = some (.int .u8 (rd own (i : Int))) := fun x i hx hi => by
    obtain ⟨ad, ea, h⟩ := Kd.at_int (HG.out.row x hx) (i : Int) (by omega) (by rw [HLO.out]; omega)
    cases ea
    rw [Int.toNat_natCast] at h
    exact h
  have HLD := Aside0.mk hld
  have hb1 : w2.cell? ⟨a.block, a.off + 1, none⟩ = some (.int .u8 (sn : Int)) := by
    have := hld w2 1 (Below.refl _ _) (by omega)
    rw [← HSN.out] at this
    exact this
  clear hld
  have ERR : ¬ okS own = true → r = (zeroS, 5) := fun h => by rw [HQ.out, if_neg h]
  have HERR := Aside0.mk ERR
  clear ERR
  by_cases h4 : q4 = 0
  · subst h4
    by_cases h8 : q8 = 0
    · subst h8
      by_cases hk48 : sn ≤ 48
      · have hd1 : decide ((48 : Int) < sn) = false := decide_eq_false (by omega)
        have HK48 := Aside0.mk hk48
        obtain ⟨d, hd⟩ : ∃ d, d = (own.drop 12).take sn := ⟨_, rfl⟩
        have hdl : d.length = sn := by rw [hd, List.length_take, List.length_drop, HLO.out]; omega
        have HD := Aside0.mk hd
        have HDL := Aside0.mk hdl
        clear hd hdl
        go_wp2_with fail
        have hm0 : ∀ m : Go.Reg.In (Below w2.heap.size w2), m.w.cell? a = some (.int .u8 k) := fun m => by
          have := HLD.out m.w 0 m.h (by omega)
          rw [← HK.out] at this
          exact this
        refine Go.Reg.region (Below w2.heap.size w2) [.s, .s, .s, .s, .s, .s, .s, .s, .s, .s, .s, .s, .w, .x] (by kernel_rfl) (by kernel_rfl) (below_drew1 (Below.refl _ _)) (fun ne => ?_)
        refine Go.Reg.lex_q 12 _ _ _ _ (by rfl) ?_; simp only [List.take_succ_cons, List.take_zero, List.drop_succ_cons, List.drop_zero]; (repeat (go_big_quiet_step (rfl))); refine wpQuiet_nil ?_
        clear hm0
        obtain ⟨a2, ha2⟩ : ∃ a2, a2 = (⟨a.block, a.off + 12, none⟩ : Addr) := ⟨_, rfl⟩
        have hmc : ∀ x, Below w2.heap.size w2 x → Kd.C (Kd.int .u8) x (some a2) d.length d := fun x hx => by
          have := mid_C (HG.out.row x hx) 12 sn (by rw [HLO.out]; omega)
          rw [← HD.out] at this
          rw [HDL.out, ha2]
          exact this
        rw [← ha2]
        clear ha2
        have HMC := Aside0.mk hmc
        clear hmc
        refine Go.Reg.step_w (fun KK hKK => ?_)
        go_wp2_with fail
        obtain ⟨w3, hw3⟩ : ∃ w3, w3 = (w2.alloc (.cells #[.int .i64 0, .int .i64 0, .int .i64 0, .int .i64 0, .slice none 0 0] 69)).drew := ⟨_, rfl⟩
        have hal : Below w2.heap.size w2 w3 := by rw [hw3]; exact below_drew1 ((Below.refl w2.heap.size w2).alloc (Nat.le_refl _) (.cells #[.int .i64 0, .int .i64 0, .int .i64 0, .int .i64 0, .slice none 0 0] 69))
        have hnb : w3.heap[w2.heap.size]? = some (.cells #[.int .i64 0, .int .i64 0, .int .i64 0, .int .i64 0, .slice none 0 0] 69 (0, 0)) := by rw [hw3]; exact heap_alloc_new w2 (.cells #[.int .i64 0, .int .i64 0, .int .i64 0, .int .i64 0, .slice none 0 0] 69)
        rw [← hw3]
        have HB3 := Aside0.mk hal
        obtain ⟨xb, hxb⟩ : ∃ xb, xb = w2.heap.size := ⟨_, rfl⟩
        have HXB := Aside0.mk (show w2.heap.size ≤ xb by omega)
        rw [← hxb] at hnb
        rw [← hxb]
        have HNB := Aside0.mk hnb
        clear hw3 hal hnb hxb
        refine hKK.out _ _ HB3.out ?_
        clear hKK KK
        have e0 : w3.cell? ⟨xb, 0, none⟩ = some (.int .i64 0) := cell_blk HNB.out
        have e1 : w3.cell? ⟨xb, 1, none⟩ = some (.int .i64 0) := cell_blk HNB.out
        have e2 : w3.cell? ⟨xb, 2, none⟩ = some (.int .i64 0) := cell_blk HNB.out
        have e3 : w3.cell? ⟨xb, 3, none⟩ = some (.int .i64 0) := cell_blk HNB.out
        have e4 : w3.cell? ⟨xb, 4, none⟩ = some (.slice none 0 0) := cell_blk HNB.out
        have g0 : w3.frozen? ⟨xb, 0, none⟩ = false := frozen_blk HNB.out
        have g1 : w3.frozen? ⟨xb, 1, none⟩ = false := frozen_blk HNB.out
        have g2 : w3.frozen? ⟨xb, 2, none⟩ = false := frozen_blk HNB.out
        have g3 : w3.frozen? ⟨xb, 3, none⟩ = false := frozen_blk HNB.out
        have g4 : w3.frozen? ⟨xb, 4, none⟩ = false := frozen_blk HNB.out
        refine Go.Reg.step_x (by rfl) (fun KK hKK => ?_)
        go_wp2_with fail
        refine hKK.out _ _ ?_
        clear hKK KK
        try simp only [Act.put, List.setIfInBounds_toArray, List.set_cons_succ, List.set_cons_zero]
        refine Go.Reg.lex_nil ?_
        clear e0 e1 e2 e3 e4 g0 g1 g2 g3 g4
        have hkw : wrap64 k = k := by
          have := rd_byte HOB.out 0
          rw [HK.out]
          exact wrap_id _ (by omega) (by omega)
        rw [hkw]
        clear hkw
        obtain ⟨w7, hw7⟩ : ∃ w7, w7 = (((((w3.setCell ⟨xb, 0, none⟩ (.int .i64 k)).setCell ⟨xb, 1, none⟩ (.int .i64 e)).setCell ⟨xb, 2, none⟩ (.int .i64 n)).setCell ⟨xb, 3, none⟩ (.int .i64 lf)).setCell ⟨xb, 4, none⟩ (.slice (some a2) sn (c1 - 12))) := ⟨_, rfl⟩
        have hx7 : w7.heap[xb]? = some (.cells #[.int .i64 k, .int .i64 e, .int .i64 n, .int .i64 lf, .slice (some a2) sn (c1 - 12)] 69 (0, 0)) := by rw [hw7]; exact five_set HNB.out _ _ _ _ _
        have hb7 : Below w2.heap.size w2 w7 := by rw [hw7]; exact five_below HB3.out HXB.out _ _ _ _ _
        rw [← hw7]
        have HMC7 := Aside0.mk (show ∀ x, Below w7.heap.size w7 x → Kd.C (Kd.int .u8) x (some a2) d.length d from fun x hx => HMC.out x (below_steps hb7 hx))
        have HDB := Aside0.mk (show ∀ y ∈ d, 0 ≤ y ∧ y ≤ 255 by rw [HD.out]; exact take_byte HOB.out 12 sn)
        have hg := HG.out.step hb7
        clear HG hb7 hw7 HMC HNB HB3 HLD
        have HG := Aside0.mk hg
        clear hg
        have x0 : w7.cell? ⟨xb, 0, none⟩ = some (.int .i64 k) := cell_blk hx7
        have x1 : w7.cell? ⟨xb, 1, none⟩ = some (.int .i64 e) := cell_blk hx7
        have x2 : w7.cell? ⟨xb, 2, none⟩ = some (.int .i64 n) := cell_blk hx7
        have x3 : w7.cell? ⟨xb, 3, none⟩ = some (.int .i64 lf) := cell_blk hx7
        have x4 : w7.cell? ⟨xb, 4, none⟩ = some (.slice (some a2) sn (c1 - 12)) := cell_blk hx7
        have HX7 := Aside0.mk hx7
        clear hx7
        go_wp2_with fail
        clear x0 x1 x2 x3 x4
        have hp := xput_any k e n lf (some a2) (c1 - 12) d (HMC7.out _ (Below.refl _ _)) (by rw [HDL.out]; omega) HDB.out
        rw [HDL.out] at hp
        obtain ⟨P, hP⟩ : ∃ P, P = putS k e n lf d := ⟨_, rfl⟩
        rw [← hP] at hp
        have HPP := Aside0.mk hP
        have hiff := HIFF.out
        have hraw := HRAW.out (by simp) (by simp)
        rw [hraw, ← HD.out, ← HQ4.out, ← HQ8.out, HSZ.out] at hiff
        have HI2 := Aside0.mk (show okS own = true ↔ P.2 = 0 ∧ P.1 = l by
          rw [hiff, HSE.out, ← HOWN.out, hP]
          constructor
          · rintro ⟨_, _, _, h1, h2⟩; exact ⟨h1, h2⟩
          · rintro ⟨h1, h2⟩; exact ⟨rfl, rfl, by have := HK48.out; omega, h1, h2⟩)
        clear hiff hP hraw
        refine hp.mono ?_
        clear hp
        rintro z w8 ⟨v8, rfl, hr8, b8⟩
        obtain ⟨A8, c8, rfl⟩ := Kd.R_slice hr8
        have hg := HG.out.step b8
        have HX8 := Aside0.mk ((b8.block _ (blk_lt HX7.out)).trans HX7.out)
        have HMC8 := Aside0.mk (show ∀ x, Below w8.heap.size w8 x → Kd.C (Kd.int .u8) x (some a2) d.length d from fun x hx => HMC7.out x (below_steps b8 hx))
        clear HG b8 HX7 HMC7
        have HG := Aside0.mk hg
        clear hg
        obtain ⟨T, hT⟩ : ∃ T, T = strOfNums P.1 := ⟨_, rfl⟩
        obtain ⟨U, hU⟩ : ∃ U, U = strOfNums l := ⟨_, rfl⟩
        have hcv1 : (convert 26 9 (.slice A8 P.1.length c8)).run Try.prog w8 = .ok (.string T) w8 := by rw [hT]; exact strC (row_at hr8)
        have hcv2 : (convert 26 9 (.slice A 64 c)).run Try.prog w8 = .ok (.string U) w8 := by
          rw [hU]
          have := Kd.C_below HC.out (below_up HG.out.below)
          rw [HL.out] at this
          exact strC this
        obtain ⟨e2, he2⟩ : ∃ e2, e2 = P.2 := ⟨_, rfl⟩
        obtain ⟨pl, hpl⟩ : ∃ pl, pl = P.1.length := ⟨_, rfl⟩
        have HTU := Aside0.mk (show T.toList = U.toList → P.1 = l from fun h => str_inj (put_byte HDB.out HPP.out) HBY.out (by rw [← hT, ← hU]; exact h))
        have HTU2 := Aside0.mk (show P.1 = l → T = U from fun h => by rw [hT, hU, h])
        have HI3 := Aside0.mk (show okS own = true ↔ e2 = 0 ∧ P.1 = l by rw [he2]; exact HI2.out)
        rw [← he2, ← hpl]
        rw [← hpl] at hcv1
        clear hT hU he2 hpl hr8
        by_cases he : e2 = 0
        · subst he
          by_cases hpq : P.1 = l
          · have hr5 := Aside0.mk (show r = (⟨k, e, n, lf, d⟩, 0) by rw [HQ.out, if_pos (HI3.out.2 ⟨rfl, hpq⟩), HRAW.out (by simp) (by simp), HD.out])
            obtain rfl := HTU2.out hpq
            clear hpq
            have z0 : w8.cell? ⟨w.heap.size, 0, none⟩ = some (.int .i64 0) := cell_blk HG.out.zero
            have z1 : w8.cell? ⟨w.heap.size, 1, none⟩ = some (.int .i64 0) := cell_blk HG.out.zero
            have z2 : w8.cell? ⟨w.heap.size, 2, none⟩ = some (.int .i64 0) := cell_blk HG.out.zero
            have z3 : w8.cell? ⟨w.heap.size, 3, none⟩ = some (.int .i64 0) := cell_blk HG.out.zero
            have z4 : w8.cell? ⟨w.heap.size, 4, none⟩ = some (.slice none 0 0) := cell_blk HG.out.zero
            have f0 : w8.frozen? ⟨w.heap.size, 0, none⟩ = false := frozen_blk HG.out.zero
            have f1 : w8.frozen? ⟨w.heap.size, 1, none⟩ = false := frozen_blk HG.out.zero
            have f2 : w8.frozen? ⟨w.heap.size, 2, none⟩ = false := frozen_blk HG.out.zero
            have f3 : w8.frozen? ⟨w.heap.size, 3, none⟩ = false := frozen_blk HG.out.zero
            have f4 : w8.frozen? ⟨w.heap.size, 4, none⟩ = false := frozen_blk HG.out.zero
            have x0 : w8.cell? ⟨xb, 0, none⟩ = some (.int .i64 k) := cell_blk HX8.out
            have x1 : w8.cell? ⟨xb, 1, none⟩ = some (.int .i64 e) := cell_blk HX8.out
            have x2 : w8.cell? ⟨xb, 2, none⟩ = some (.int .i64 n) := cell_blk HX8.out
            have x3 : w8.cell? ⟨xb, 3, none⟩ = some (.int .i64 lf) := cell_blk HX8.out
            have x4 : w8.cell? ⟨xb, 4, none⟩ = some (.slice (some a2) sn (c1 - 12)) := cell_blk HX8.out
            go_wp2_with fail
            refine bodyPost_ret (results_ct rfl _ _ w.heap.size 69 #[.int .i64 k, .int .i64 e, .int .i64 n, .int .i64 lf, .slice (some a2) sn (c1 - 12)] (0, 0) _ rfl (five_set HG.out.zero _ _ _ _ _) Try.underlying69 rfl (by kernel_rfl)) rfl ?_
            refine ⟨some a2, c1 - 12, by rw [hr5.out, ← HDL.out]; rfl, by rw [hr5.out]; show d.length ≤ c1 - 12; rw [HDL.out]; omega, fun y hy => ?_, five_below HG.out.below (Nat.le_refl _) _ _ _ _ _⟩
            rw [hr5.out]
            exact Kd.C_below (C_but (HMC8.out _ (Below.refl _ _)) HG.out.zero not8_5 (five_but _ _ _ _ _)) hy
          · have hne : (!T.toList == U.toList) = true := by simpa using (fun h => hpq (HTU.out h))
            have HR5 := Aside0.mk (HERR.out (fun h => hpq (HI3.out.1 h).2))
            clear hpq
            have z0 : w8.cell? ⟨w.heap.size, 0, none⟩ = some (.int .i64 0) := cell_blk HG.out.zero
            have z1 : w8.cell? ⟨w.heap.size, 1, none⟩ = some (.int .i64 0) := cell_blk HG.out.zero
            have z2 : w8.cell? ⟨w.heap.size, 2, none⟩ = some (.int .i64 0) := cell_blk HG.out.zero
            have z3 : w8.cell? ⟨w.heap.size, 3, none⟩ = some (.int .i64 0) := cell_blk HG.out.zero
            have z4 : w8.cell? ⟨w.heap.size, 4, none⟩ = some (.slice none 0 0) := cell_blk HG.out.zero
            have f0 : w8.frozen? ⟨w.heap.size, 0, none⟩ = false := frozen_blk HG.out.zero
            have f1 : w8.frozen? ⟨w.heap.size, 1, none⟩ = false := frozen_blk HG.out.zero
            have f2 : w8.frozen? ⟨w.heap.size, 2, none⟩ = false := frozen_blk HG.out.zero
            have f3 : w8.frozen? ⟨w.heap.size, 3, none⟩ = false := frozen_blk HG.out.zero
            have f4 : w8.frozen? ⟨w.heap.size, 4, none⟩ = false := frozen_blk HG.out.zero
            go_wp2_with fail
            refine bodyPost_ret (results_ct rfl _ _ w.heap.size 69 #[.int .i64 0, .int .i64 0, .int .i64 0, .int .i64 0, .slice none 0 0] (0, 0) _ rfl (five_set HG.out.zero _ _ _ _ _) Try.underlying69 rfl (by kernel_rfl)) rfl ?_
            exact ⟨none, 0, by rw [HR5.out]; rfl, by rw [HR5.out]; exact Nat.le_refl _, fun x hx => by rw [HR5.out]; exact nilC x, five_below HG.out.below (Nat.le_refl _) _ _ _ _ _⟩
        · have he' : (e2 != 0) = true := by simpa using he
          have HR5 := Aside0.mk (HERR.out (fun h => he (HI3.out.1 h).1))
          have z0 : w8.cell? ⟨w.heap.size, 0, none⟩ = some (.int .i64 0) := cell_blk HG.out.zero
          have z1 : w8.cell? ⟨w.heap.size, 1, none⟩ = some (.int .i64 0) := cell_blk HG.out.zero
          have z2 : w8.cell? ⟨w.heap.size, 2, none⟩ = some (.int .i64 0) := cell_blk HG.out.zero
          have z3 : w8.cell? ⟨w.heap.size, 3, none⟩ = some (.int .i64 0) := cell_blk HG.out.zero
          have z4 : w8.cell? ⟨w.heap.size, 4, none⟩ = some (.slice none 0 0) := cell_blk HG.out.zero
          have f0 : w8.frozen? ⟨w.heap.size, 0, none⟩ = false := frozen_blk HG.out.zero
          have f1 : w8.frozen? ⟨w.heap.size, 1, none⟩ = false := frozen_blk HG.out.zero
          have f2 : w8.frozen? ⟨w.heap.size, 2, none⟩ = false := frozen_blk HG.out.zero
          have f3 : w8.frozen? ⟨w.heap.size, 3, none⟩ = false := frozen_blk HG.out.zero
          have f4 : w8.frozen? ⟨w.heap.size, 4, none⟩ = false := frozen_blk HG.out.zero
          go_wp2_with fail
          refine bodyPost_ret (results_ct rfl _ _ w.heap.size 69 #[.int .i64 0, .int .i64 0, .int .i64 0, .int .i64 0, .slice none 0 0] (0, 0) _ rfl (five_set HG.out.zero _ _ _ _ _) Try.underlying69 rfl (by kernel_rfl)) rfl ?_
          exact ⟨none, 0, by rw [HR5.out]; rfl, by rw [HR5.out]; exact Nat.le_refl _, fun x hx => by rw [HR5.out]; exact nilC x, five_below HG.out.below (Nat.le_refl _) _ _ _ _ _⟩
      · have hd1 : decide ((48 : Int) < sn) = true := decide_eq_true (by omega)
        have HR5 := Aside0.mk (HERR.out (fun h => hk48 (by have := (HIFF.out.1 h).2.2.1; rw [HSZ.out] at this; omega)))
        have z0 : w2.cell? ⟨w.heap.size, 0, none⟩ = some (.int .i64 0) := cell_blk HG.out.zero
        have z1 : w2.cell? ⟨w.heap.size, 1, none⟩ = some (.int .i64 0) := cell_blk HG.out.zero
        have z2 : w2.cell? ⟨w.heap.size, 2, none⟩ = some (.int .i64 0) := cell_blk HG.out.zero
        have z3 : w2.cell? ⟨w.heap.size, 3, none⟩ = some (.int .i64 0) := cell_blk HG.out.zero
        have z4 : w2.cell? ⟨w.heap.size, 4, none⟩ = some (.slice none 0 0) := cell_blk HG.out.zero
        have f0 : w2.frozen? ⟨w.heap.size, 0, none⟩ = false := frozen_blk HG.out.zero
        have f1 : w2.frozen? ⟨w.heap.size, 1, none⟩ = false := frozen_blk HG.out.zero
        have f2 : w2.frozen? ⟨w.heap.size, 2, none⟩ = false := frozen_blk HG.out.zero
        have f3 : w2.frozen? ⟨w.heap.size, 3, none⟩ = false := frozen_blk HG.out.zero
        have f4 : w2.frozen? ⟨w.heap.size, 4, none⟩ = false := frozen_blk HG.out.zero
        go_wp2_with fail
        refine bodyPost_ret (results_ct rfl _ _ w.heap.size 69 #[.int .i64 0, .int .i64 0, .int .i64 0, .int .i64 0, .slice none 0 0] (0, 0) _ rfl (five_set HG.out.zero _ _ _ _ _) Try.underlying69 rfl (by kernel_rfl)) rfl ?_
        exact ⟨none, 0, by rw [HR5.out]; rfl, by rw [HR5.out]; exact Nat.le_refl _, fun x hx => by rw [HR5.out]; exact nilC x, five_below HG.out.below (Nat.le_refl _) _ _ _ _ _⟩
    · have h8b : (q8 != 0) = true := by simpa using h8
      have HR5 := Aside0.mk (HERR.out (fun h => h8 (by rw [HQ8.out]; exact (HIFF.out.1 h).2.1)))
      have z0 : w2.cell? ⟨w.heap.size, 0, none⟩ = some (.int .i64 0) := cell_blk HG.out.zero
      have z1 : w2.cell? ⟨w.heap.size, 1, none⟩ = some (.int .i64 0) := cell_blk HG.out.zero
      have z2 : w2.cell? ⟨w.heap.size, 2, none⟩ = some (.int .i64 0) := cell_blk HG.out.zero
      have z3 : w2.cell? ⟨w.heap.size, 3, none⟩ = some (.int .i64 0) := cell_blk HG.out.zero
      have z4 : w2.cell? ⟨w.heap.size, 4, none⟩ = some (.slice none 0 0) := cell_blk HG.out.zero
      have f0 : w2.frozen? ⟨w.heap.size, 0, none⟩ = false := frozen_blk HG.out.zero
      have f1 : w2.frozen? ⟨w.heap.size, 1, none⟩ = false := frozen_blk HG.out.zero
      have f2 : w2.frozen? ⟨w.heap.size, 2, none⟩ = false := frozen_blk HG.out.zero
      have f3 : w2.frozen? ⟨w.heap.size, 3, none⟩ = false := frozen_blk HG.out.zero
      have f4 : w2.frozen? ⟨w.heap.size, 4, none⟩ = false := frozen_blk HG.out.zero
      go_wp2_with fail
      refine bodyPost_ret (results_ct rfl _ _ w.heap.size 69 #[.int .i64 0, .int .i64 0, .int .i64 0, .int .i64 0, .slice none 0 0] (0, 0) _ rfl (five_set HG.out.zero _ _ _ _ _) Try.underlying69 rfl (by kernel_rfl)) rfl ?_
      exact ⟨none, 0, by rw [HR5.out]; rfl, by rw [HR5.out]; exact Nat.le_refl _, fun x hx => by rw [HR5.out]; exact nilC x, five_below HG.out.below (Nat.le_refl _) _ _ _ _ _⟩
  · have h4b : (q4 != 0) = true := by simpa using h4
    have HR5 := Aside0.mk (HERR.out (fun h => h4 (by rw [HQ4.out]; exact (HIFF.out.1 h).1)))
    have z0 : w2.cell? ⟨w.heap.size, 0, none⟩ = some (.int .i64 0) := cell_blk HG.out.zero
    have z1 : w2.cell? ⟨w.heap.size, 1, none⟩ = some (.int .i64 0) := cell_blk HG.out.zero
    have z2 : w2.cell? ⟨w.heap.size, 2, none⟩ = some (.int .i64 0) := cell_blk HG.out.zero
    have z3 : w2.cell? ⟨w.heap.size, 3, none⟩ = some (.int .i64 0) := cell_blk HG.out.zero
    have z4 : w2.cell? ⟨w.heap.size, 4, none⟩ = some (.slice none 0 0) := cell_blk HG.out.zero
    have f0 : w2.frozen? ⟨w.heap.size, 0, none⟩ = false := frozen_blk HG.out.zero
    have f1 : w2.frozen? ⟨w.heap.size, 1, none⟩ = false := frozen_blk HG.out.zero
    have f2 : w2.frozen? ⟨w.heap.size, 2, none⟩ = false := frozen_blk HG.out.zero
    have f3 : w2.frozen? ⟨w.heap.size, 3, none⟩ = false := frozen_blk HG.out.zero
    have f4 : w2.frozen? ⟨w.heap.size, 4, none⟩ = false := frozen_blk HG.out.zero
    go_wp2_with fail
    refine bodyPost_ret (results_ct rfl _ _ w.heap.size 69 #[.int .i64 0, .int .i64 0, .int .i64 0, .int .i64 0, .slice none 0 0] (0, 0) _ rfl (five_set HG.out.zero _ _ _ _ _) Try.underlying69 rfl (by kernel_rfl)) rfl ?_
    exact ⟨none, 0, by rw [HR5.out]; rfl, by rw [HR5.out]; exact Nat.le_refl _, fun x hx => by rw [HR5.out]; exact nilC x, five_below HG.out.below (Nat.le_refl _) _ _ _ _ _⟩
theorem xget_any {w : World} (A : Option Addr) (c : Nat) (l : List Int) (hC : Kd.C (Kd.int .u8) w A l.length l) (hb : ∀ y ∈ l, 0 ≤ y ∧ y ≤ 255) (hc : l.length ≤ c) (hl : l.length ≤ 200000) :
    Calls Try.prog 42 #[.slice A l.length c] w fun e w' => ∃ A' c', e = .returned (.tuple #[.agg #[.int .i64 (getS l).1.k, .int .i64 (getS l).1.e, .int .i64 (getS l).1.n, .int .i64 (getS l).1.l, .slice A' (getS l).1.d.length c'], .int .i64 (getS l).2]) ∧ (getS l).1.d.length ≤ c' ∧ (∀ x, Below w'.heap.size w' x → Kd.C (Kd.int .u8) x A' (getS l).1.d.length (getS l).1.d) ∧ Below w.heap.size w w' := by
  by_cases h : l.length ≠ 64 ∨ (openP l).2 ≠ 0
  · exact xget_no A c l hC hb hc hl h
  · have h1 : l.length = 64 := Classical.byContradiction (fun e => h (Or.inl e))
    have h2 : (openP l).2 = 0 := Classical.byContradiction (fun e => h (Or.inr e))
    exact xget_yes A c l hC hb hc h1 h2
end Sect
end Go.Proofs.Ytopfjmeejpamjaa
end
