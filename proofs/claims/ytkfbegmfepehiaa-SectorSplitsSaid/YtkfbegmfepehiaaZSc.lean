import Derived.Test.YtkfbegmfepehiaaZM1
import Derived.Test.YtkfbegmfepehiaaZRegF
import Derived.Deep.Cut
import Derived.Deep.CutRange
namespace Go.Proofs.Ytkfbegmfepehiaa
set_option linter.unusedVariables false
set_option linter.unusedSimpArgs false
set_option linter.ambiguousOpen false
open Go.RowKit Go.Proofs.YtkfbegmfepehiaaW.PrintWords Go.Proofs.YtkfbegmfepehiaaW.PrintLast Go.Proofs.YtkfbegmfepehiaaW.PrintMore
namespace Sect
open Go.Num Go.Crc Go.Proofs.Ytkfbegmfepehiaa.Cell
structure Sec where
  k : Int
  e : Int
  n : Int
  l : Int
  d : List Int
def zeroS : Sec := ⟨0, 0, 0, 0, []⟩
def sizeS (own : List Int) : Int := numP ((own.drop 1).take 1)
def rawS (own : List Int) : Sec := ⟨numP ((own.drop 0).take 1), numP ((own.drop 4).take 4), numP ((own.drop 8).take 4), numP ((own.drop 2).take 2), (own.drop 12).take (sizeS own).toNat⟩
def okS (own : List Int) : Bool := decide (sizeS own ≤ 48) && (secOk (rawS own).k (rawS own).e (rawS own).n (rawS own).l (rawS own).d && decide (maxL (own.drop (12 + (sizeS own).toNat)) = 0))
def getS (l : List Int) : Sec × Int := if l.length ≠ 64 then (zeroS, 11) else if (openP l).2 ≠ 0 then (zeroS, (openP l).2) else if okS (openP l).1 = true then (rawS (openP l).1, 0) else (zeroS, 5)
theorem unfix1 (l : List Int) (hl : l.length = 1) (hb : ∀ x ∈ l, 0 ≤ x ∧ x ≤ 255) : unfixP l = (unB l, 0) ∧ 0 ≤ unB l ∧ unB l ≤ 255 := by
  have h := unB_lt l hb
  rw [hl] at h
  have h2 : (256 : Int) ^ 1 = 256 := by decide
  rw [h2] at h
  refine ⟨?_, h.1, by omega⟩
  unfold unfixP
  rw [if_neg (by omega), if_neg (by omega)]
theorem nums5 (own : List Int) : numsS own 5 = [(rawS own).k, sizeS own, (rawS own).l, (rawS own).e, (rawS own).n] := rfl
theorem five_set {w : World} {b t : Nat} {a0 a1 a2 a3 a4 : Value} (h : w.heap[b]? = some (.cells #[a0, a1, a2, a3, a4] t (0, 0))) (v0 v1 v2 v3 v4 : Value) : (((((w.setCell ⟨b, 0, none⟩ v0).setCell ⟨b, 1, none⟩ v1).setCell ⟨b, 2, none⟩ v2).setCell ⟨b, 3, none⟩ v3).setCell ⟨b, 4, none⟩ v4).heap[b]? = some (.cells #[v0, v1, v2, v3, v4] t (0, 0)) := by
  have := blk_set (blk_set (blk_set (blk_set (blk_set h 0 v0) 1 v1) 2 v2) 3 v3) 4 v4
  rw [this]
  rfl
theorem five_below {w0 w : World} {base b : Nat} (h : Below base w0 w) (hb : base ≤ b) (v0 v1 v2 v3 v4 : Value) : Below base w0 (((((w.setCell ⟨b, 0, none⟩ v0).setCell ⟨b, 1, none⟩ v1).setCell ⟨b, 2, none⟩ v2).setCell ⟨b, 3, none⟩ v3).setCell ⟨b, 4, none⟩ v4) :=
  ((((h.setCell hb v0).setCell hb v1).setCell hb v2).setCell hb v3).setCell hb v4
theorem five_but {w : World} {b : Nat} (v0 v1 v2 v3 v4 : Value) : ∀ k, k ≠ b → (((((w.setCell ⟨b, 0, none⟩ v0).setCell ⟨b, 1, none⟩ v1).setCell ⟨b, 2, none⟩ v2).setCell ⟨b, 3, none⟩ v3).setCell ⟨b, 4, none⟩ v4).heap[k]? = w.heap[k]? := fun k hk => by
  rw [Below.heap_setCell _ _ _ _ hk, Below.heap_setCell _ _ _ _ hk, Below.heap_setCell _ _ _ _ hk, Below.heap_setCell _ _ _ _ hk, Below.heap_setCell _ _ _ _ hk]
structure GT (w0 w : World) (base cb : Nat) (bs : List Int) (bad : Bool) : Prop where
  below : Below w0.heap.size w0 w
  zero : w.heap[w0.heap.size]? = some (.cells #[.int .i64 0, .int .i64 0, .int .i64 0, .int .i64 0, .slice none 0 0] 44 (0, 0))
  pc : PC w base cb bs bad
  far : w0.heap.size < cb
  cur : cb < w.heap.size
theorem GT.only {w0 w w' : World} {base cb : Nat} {bs bs' : List Int} {bad bad' : Bool} (h : GT w0 w base cb bs bad) (f : Only cb w w') (p : PC w' base cb bs' bad') : GT w0 w' base cb bs' bad' :=
  ⟨h.below.trans (f.below (by have := h.far; omega) h.below.size), (f.block _ (blk_lt h.zero) (by have := h.far; omega)).trans h.zero, p, h.far, Nat.lt_of_lt_of_le h.cur f.size⟩
theorem GT.end_ {w0 w w' : World} {base cb : Nat} {bs : List Int} {bad : Bool} (h : GT w0 w base cb bs bad) (f : Only cb w w') : Below w0.heap.size w0 w' ∧ w'.heap[w0.heap.size]? = some (.cells #[.int .i64 0, .int .i64 0, .int .i64 0, .int .i64 0, .slice none 0 0] 44 (0, 0)) :=
  ⟨h.below.trans (f.below (by have := h.far; omega) h.below.size), (f.block _ (blk_lt h.zero) (by have := h.far; omega)).trans h.zero⟩
theorem GT.step {w0 w w' : World} {base cb : Nat} {bs : List Int} {bad : Bool} (h : GT w0 w base cb bs bad) (f : Below w.heap.size w w') : GT w0 w' base cb bs bad :=
  ⟨h.below.trans (f.mono h.below.size), (f.block _ (blk_lt h.zero)).trans h.zero, h.pc.only (b := 0) f, h.far, Nat.lt_of_lt_of_le h.cur f.size⟩
set_option maxHeartbeats 16000000 in
set_option maxRecDepth 100000 in
theorem get_no {w : World} (A : Option Addr) (c : Nat) (l : List Int) (hC : Kd.C (Kd.int .u8) w A l.length l) (hb : ∀ y ∈ l, 0 ≤ y ∧ y ≤ 255) (hc : l.length ≤ c) (hl : l.length ≤ 200000) (hno : l.length ≠ 64 ∨ (openP l).2 ≠ 0) :
    Calls Try.prog 25 #[.slice A l.length c] w fun r w' => r = .returned (.tuple #[.agg #[.int .i64 0, .int .i64 0, .int .i64 0, .int .i64 0, .slice none 0 0], .int .i64 (getS l).2]) ∧ Below w.heap.size w w' := by
  have HC := Aside0.mk hC
  have HBY := Aside0.mk hb
  clear hC hb
  obtain ⟨r, hr⟩ : ∃ r, r = (getS l).2 := ⟨_, rfl⟩
  rw [← hr]
  by_cases h64 : l.length ≠ 64
  · have HQ := Aside0.mk (show r = 11 by rw [hr]; unfold getS; rw [if_pos h64])
    have hne : ((l.length : Int) != 64) = true := by simp; omega
    clear hr hno
    go_enter Try.func25, Try.ntmps25
    go_wp2_with fail
    refine bodyPost_ret (results_ct rfl _ _ w.heap.size 44 #[.int .i64 0, .int .i64 0, .int .i64 0, .int .i64 0, .slice none 0 0] (0, 0) _ rfl (heap_alloc_new w _) Try.underlying44 rfl (by kernel_rfl)) rfl ?_
    exact ⟨by rw [HQ.out]; rfl, (Below.refl _ _).alloc (Nat.le_refl _) _⟩
  · have h2 : l.length = 64 := by omega
    have h12 : (openP l).2 = 12 := by
      rcases open_err l with h | h
      · rcases hno with hn | hn
        · exact absurd h2 hn
        · exact absurd h hn
      · exact h
    have HQ := Aside0.mk (show r = 12 by rw [hr]; unfold getS; rw [if_neg h64, if_pos (by rw [h12]; decide), h12])
    have HL := Aside0.mk h2
    have H12 := Aside0.mk h12
    rw [h2] at hc hl ⊢
    clear hr hno h64 h2 h12
    go_enter Try.func25, Try.ntmps25
    go_wp2_with fail
    obtain ⟨W, hW⟩ : ∃ W, W = w.alloc (.cells #[.int .i64 0, .int .i64 0, .int .i64 0, .int .i64 0, .slice none 0 0] 44) := ⟨_, rfl⟩
    have HB0 := Aside0.mk (show Below w.heap.size w W by rw [hW]; exact (Below.refl _ _).alloc (Nat.le_refl _) _)
    have HBX := Aside0.mk (show W.heap[w.heap.size]? = some (.cells #[.int .i64 0, .int .i64 0, .int .i64 0, .int .i64 0, .slice none 0 0] 44 (0, 0)) by rw [hW]; exact heap_alloc_new w _)
    rw [← hW]
    clear hW
    have hop := open_any A c l W (Kd.C_below HC.out HB0.out) HBY.out (by rw [HL.out]; omega) (by rw [HL.out]; omega)
    rw [HL.out, H12.out] at hop
    refine hop.mono ?_
    clear hop
    rintro e w1 ⟨v1, rfl, _, b1⟩
    have hbx := (b1.block _ (blk_lt HBX.out)).trans HBX.out
    have HB1 := Aside0.mk (HB0.out.trans (b1.mono HB0.out.size))
    have HX1 := Aside0.mk hbx
    have z0 : w1.cell? ⟨w.heap.size, 0, none⟩ = some (.int .i64 0) := cell_blk hbx
    have z1 : w1.cell? ⟨w.heap.size, 1, none⟩ = some (.int .i64 0) := cell_blk hbx
    have z2 : w1.cell? ⟨w.heap.size, 2, none⟩ = some (.int .i64 0) := cell_blk hbx
    have z3 : w1.cell? ⟨w.heap.size, 3, none⟩ = some (.int .i64 0) := cell_blk hbx
    have z4 : w1.cell? ⟨w.heap.size, 4, none⟩ = some (.slice none 0 0) := cell_blk hbx
    have f0 : w1.frozen? ⟨w.heap.size, 0, none⟩ = false := frozen_blk hbx
    have f1 : w1.frozen? ⟨w.heap.size, 1, none⟩ = false := frozen_blk hbx
    have f2 : w1.frozen? ⟨w.heap.size, 2, none⟩ = false := frozen_blk hbx
    have f3 : w1.frozen? ⟨w.heap.size, 3, none⟩ = false := frozen_blk hbx
    have f4 : w1.frozen? ⟨w.heap.size, 4, none⟩ = false := frozen_blk hbx
    clear b1 hbx
    go_wp2_with fail
    refine bodyPost_ret (results_ct rfl _ _ w.heap.size 44 #[.int .i64 0, .int .i64 0, .int .i64 0, .int .i64 0, .slice none 0 0] (0, 0) _ rfl (five_set HX1.out _ _ _ _ _) Try.underlying44 rfl (by kernel_rfl)) rfl ?_
    exact ⟨by rw [HQ.out]; rfl, five_below HB1.out (Nat.le_refl _) _ _ _ _ _⟩
theorem set1 {w4 w6 : World} {cb xb : Nat} (hO : Only cb w4 w6) (hx : w4.heap.size ≤ xb) (i : Nat) (v : Value) : Only cb w4 (w6.setCell ⟨xb, i, none⟩ v) :=
  ⟨hO.os, hO.tape, hO.output, by have := hO.size; simpa [World.setCell] using this, fun k hk hn => (Below.heap_setCell w6 ⟨xb, i, none⟩ v k (by show k ≠ xb; omega)).trans (hO.block k hk hn)⟩
theorem sets5 {w4 w6 : World} {cb xb : Nat} (hO : Only cb w4 w6) (hx : w4.heap.size ≤ xb) (v0 v1 v2 v3 v4 : Value) : Only cb w4 (((((w6.setCell ⟨xb, 0, none⟩ v0).setCell ⟨xb, 1, none⟩ v1).setCell ⟨xb, 2, none⟩ v2).setCell ⟨xb, 3, none⟩ v3).setCell ⟨xb, 4, none⟩ v4) :=
  set1 (set1 (set1 (set1 (set1 hO hx 0 v0) hx 1 v1) hx 2 v2) hx 3 v3) hx 4 v4
theorem pc_other {w w' : World} {base cb xb : Nat} {cs : Array Value} {bs : List Int} {bad : Bool} (h : PC w base cb bs bad) (hx : w.heap[xb]? = some (.cells cs 44 (0, 0))) (hb : ∀ k, k ≠ xb → w'.heap[k]? = w.heap[k]?) : PC w' base cb bs bad := by
  have hne : ∀ (k : Nat) (cs' : Array Value) (t : Nat), w.heap[k]? = some (.cells cs' t (0, 0)) → t ≠ 44 → k ≠ xb := fun k cs' t h ht e => by
    subst e
    rw [hx] at h
    cases h
    exact ht rfl
  unfold PC at *
  cases bad with
  | true => exact ⟨h.1, h.2.1, (hb _ (hne _ _ _ h.2.2 (by decide))).trans h.2.2⟩
  | false =>
    obtain ⟨g, off, c, all, sp, h⟩ := h
    exact ⟨g, off, c, all, sp, h.cbase, (hb _ (hne _ _ _ h.cells (by decide))).trans h.cells, (hb _ (hne _ _ _ h.row (by decide))).trans h.row, h.at_, h.room, h.few⟩
theorem R_other {w w' : World} {base xb t : Nat} {ok : Nat → Prop} {cs : Array Value} {v : Value} {xs : List Int} (h : Kd.R (Kd.int .u8) 5 w base ok v xs) (hx : w.heap[xb]? = some (.cells cs t (0, 0))) (ht : t ≠ 5) (hb : ∀ k, k ≠ xb → w'.heap[k]? = w.heap[k]?) : Kd.R (Kd.int .u8) 5 w' base ok v xs :=
  Kd.R_mono (Kd.R_step (Kd.R_bound h) (fun k hk hlt => hb k (fun e => by
    obtain ⟨_, _, _, q, hq, cells, hcl⟩ := hk
    rw [e, hx] at hcl
    cases hcl
    simp [Kd.int, Kd.scalar] at hq
    exact ht hq))) (fun _ hk => hk.1)
theorem R_oldS {w w' : World} {cb base q t : Nat} {v : Value} {xs : List Int} (h : Kd.R (Kd.int .u8) t w base (fun k => q ≤ k) v xs) (f : Only cb w w') (hb : cb < q) : Kd.R (Kd.int .u8) t w' base (fun k => q ≤ k) v xs :=
  Kd.R_step h (fun k hk hlt => f.block k hlt (by omega))
set_option maxHeartbeats 16000000 in
set_option maxRecDepth 100000 in
theorem get_yes {w : World} (A : Option Addr) (c : Nat) (l : List Int) (hC : Kd.C (Kd.int .u8) w A l.length l) (hb : ∀ y ∈ l, 0 ≤ y ∧ y ≤ 255) (hc : l.length ≤ c) (h64 : l.length = 64) (h0 : (openP l).2 = 0) :
    Calls Try.prog 25 #[.slice A l.length c] w fun z w' => ∃ v, z = .returned (.tuple #[.agg #[.int .i64 (getS l).1.k, .int .i64 (getS l).1.e, .int .i64 (getS l).1.n, .int .i64 (getS l).1.l, v], .int .i64 (getS l).2]) ∧ Kd.R (Kd.int .u8) 5 w' w.heap.size (fun _ => True) v (getS l).1.d ∧ Below w.heap.size w w' := by
  have HC := Aside0.mk hC
  have HBY := Aside0.mk hb
  have HL := Aside0.mk h64
  have H0 := Aside0.mk h0
  obtain ⟨ho1, _⟩ := open_len l h0
  obtain ⟨own, hown⟩ : ∃ own, own = (openP l).1 := ⟨_, rfl⟩
  have hlo : own.length = 60 := by rw [hown, ho1, List.length_take, h64]; omega
  have hob : ∀ y ∈ own, 0 ≤ y ∧ y ≤ 255 := fun y hy => hb y (by rw [hown, ho1] at hy; exact List.mem_of_mem_take hy)
  have HLO := Aside0.mk hlo
  have HOB := Aside0.mk hob
  obtain ⟨r, hr⟩ : ∃ r, r = getS l := ⟨_, rfl⟩
  rw [← hr]
  have HQ := Aside0.mk (show r = if okS own = true then (rawS own, 0) else (zeroS, 5) by rw [hr, hown]; unfold getS; rw [if_neg (by omega), if_neg (by omega)])
  have HOWN := Aside0.mk hown
  obtain ⟨k, hk⟩ : ∃ z, z = (rawS own).k := ⟨_, rfl⟩
  obtain ⟨e, he⟩ : ∃ z, z = (rawS own).e := ⟨_, rfl⟩
  obtain ⟨n, hn⟩ : ∃ z, z = (rawS own).n := ⟨_, rfl⟩
  obtain ⟨lf, hlf⟩ : ∃ z, z = (rawS own).l := ⟨_, rfl⟩
  have hsz := unfix1 ((own.drop 1).take 1) (by rw [List.length_take, List.length_drop, hlo]; omega) (take_byte hob 1 1)
  have hsz2 : sizeS own = unB ((own.drop 1).take 1) := by unfold sizeS numP; rw [hsz.1]; rfl
  obtain ⟨sn, hs⟩ : ∃ sn : Nat, (sn : Int) = sizeS own := ⟨(unB ((own.drop 1).take 1)).toNat, by rw [hsz2]; omega⟩
  have hs6 : sn ≤ 255 := by rw [hsz2] at hs; omega
  have HS6 := Aside0.mk hs6
  have HSZ := Aside0.mk (show sizeS own = (sn : Int) from hs.symm)
  have HRD := Aside0.mk (show (rawS own).d = (own.drop 12).take sn by unfold rawS; rw [show sizeS own = (sn : Int) from hs.symm, Int.toNat_natCast])
  have HRAW := Aside0.mk (show rawS own = ⟨k, e, n, lf, (own.drop 12).take sn⟩ by rw [hk, he, hn, hlf, ← HRD.out])
  have HNU := Aside0.mk (show numsS own 5 = [k, (sn : Int), lf, e, n] by rw [nums5, hk, he, hn, hlf, hs])
  clear hC hb h0 ho1 hown hlo hob hr hk he hn hlf hsz hsz2 hs hs6
  rw [h64] at hc ⊢
  clear h64
  go_enter Try.func25, Try.ntmps25
  go_wp2_with fail
  obtain ⟨W, hW⟩ : ∃ W, W = w.alloc (.cells #[.int .i64 0, .int .i64 0, .int .i64 0, .int .i64 0, .slice none 0 0] 44) := ⟨_, rfl⟩
  have HB0 := Aside0.mk (show Below w.heap.size w W by rw [hW]; exact (Below.refl _ _).alloc (Nat.le_refl _) _)
  have HBX := Aside0.mk (show W.heap[w.heap.size]? = some (.cells #[.int .i64 0, .int .i64 0, .int .i64 0, .int .i64 0, .slice none 0 0] 44 (0, 0)) by rw [hW]; exact heap_alloc_new w _)
  rw [← hW]
  clear hW
  have hop := open_any A c l W (Kd.C_below HC.out HB0.out) HBY.out (by rw [HL.out]; omega) (by rw [HL.out]; omega)
  rw [HL.out, H0.out, ← HOWN.out] at hop
  refine hop.mono ?_
  clear hop
  rintro z w1 ⟨v1, rfl, hr1, b1⟩
  obtain ⟨_, ho1⟩ := Kd.own_of_R hr1
  rcases ho1 with ⟨_, hz⟩ | ⟨g, cap, cur, rfl, _⟩
  · have := HLO.out; rw [hz] at this; cases this
  have HX1 := Aside0.mk ((b1.block _ (blk_lt HBX.out)).trans HBX.out)
  have HB1 := Aside0.mk (HB0.out.trans (b1.mono HB0.out.size))
  have HR1 := Aside0.mk (row_at hr1)
  clear hr1 b1
  rw [HLO.out]
  go_wp2_with fail
  have hf := from_any ⟨g, 0, none⟩ cap own HR1.out (by rw [HLO.out]; omega)
  rw [HLO.out] at hf
  refine hf.mono ?_
  clear hf
  rintro z w2 ⟨cb, rfl, hp, b2⟩
  have HG := Aside0.mk (show GT w w2 w1.heap.size cb own false from ⟨HB1.out.trans (b2.mono HB1.out.size), (b2.block _ (blk_lt HX1.out)).trans HX1.out, hp, by have := (pc_lt hp).2; have := blk_lt HX1.out; omega, (pc_lt hp).1⟩)
  clear hp b2 HX1 HR1
  go_wp2_with fail
  obtain ⟨w3, hw3⟩ : ∃ w3, w3 = w2.alloc (.cells #[.int .i64 1, .int .i64 1, .int .i64 2, .int .i64 4, .int .i64 4] 3) := ⟨_, rfl⟩
  have hb3 : Below w2.heap.size w2 w3 := by rw [hw3]; exact (Below.refl _ _).alloc (Nat.le_refl _) _
  have hx3 : w3.heap[w2.heap.size]? = some (.cells #[.int .i64 1, .int .i64 1, .int .i64 2, .int .i64 4, .int .i64 4] 3 (0, 0)) := by rw [hw3]; exact heap_alloc_new w2 _
  rw [← hw3]
  have hg := HG.out.step hb3
  clear HG hw3 hb3
  have HG := Aside0.mk hg
  clear hg
  refine (numbers_any own HG.out.pc HLO.out HOB.out hx3).mono ?_
  clear hx3
  rintro z w4 ⟨A4, c4, rfl, hr4, hp4, ho4⟩
  have hg := HG.out.only ho4 hp4
  have HCB4 := Aside0.mk (Nat.lt_of_lt_of_le HG.out.cur (Nat.le_refl _))
  clear HG hp4 ho4
  have HG := Aside0.mk hg
  clear hg
  rw [HNU.out] at hr4
  obtain ⟨_, hl4⟩ := Kd.own_of_R hr4
  rcases hl4 with ⟨_, hz⟩ | ⟨gl, cap4, cur4, he4, hgl3, hgl4, _⟩
  · cases hz
  cases he4
  have hC4 := (Kd.R_reads' hr4).2.2
  have HGL := Aside0.mk (show gl ≠ cb by have := HCB4.out; omega)
  have HGB := Aside0.mk hgl4
  have hi : ∀ (j : Nat) (v : Int), j < 5 → ([k, (sn : Int), lf, e, n] : List Int).getD j 0 = v → w4.cell? ⟨gl, j, none⟩ = some (.int .i64 v) := fun j v hj hv => by
    obtain ⟨ad, ea, hx⟩ := Kd.at_int hC4 (j : Int) (by omega) (by simp; omega)
    cases ea
    rw [Int.toNat_natCast] at hx
    have hadd : (⟨gl, 0, none⟩ : Addr).add j = ⟨gl, j, none⟩ := by unfold Addr.add; split <;> simp_all
    rw [hadd] at hx
    rw [hx, ← hv]
    rfl
  have HI := Aside0.mk hi
  clear hi hC4 hr4 hgl3 hgl4
  by_cases hk48 : sn ≤ 48
  · have HK48 := Aside0.mk hk48
    obtain ⟨d, hd⟩ : ∃ d, d = (own.drop 12).take sn := ⟨_, rfl⟩
    obtain ⟨rs, hrs⟩ : ∃ rs, rs = (own.drop 12).drop sn := ⟨_, rfl⟩
    have hdl : d.length = sn := by rw [hd, List.length_take, List.length_drop, HLO.out]; omega
    have HDL := Aside0.mk hdl
    have HD := Aside0.mk hd
    have HRS := Aside0.mk hrs
    clear hd hrs hk48 hdl
    go_upto_region 8 with (fail)
    go_cut [8] from 28 to 45 (fun v8 wc => ∃ (xb : Nat) (A7 : Option Addr) (c7 : Nat), v8 = .pointer (some ⟨xb, 0, none⟩) ∧ Aside0 (GT w wc w1.heap.size cb rs false) ∧ Aside0 (wc.heap[xb]? = some (.cells #[.int .i64 k, .int .i64 e, .int .i64 n, .int .i64 lf, .slice A7 sn c7] 44 (0, 0))) ∧ Aside0 (Kd.R (Kd.int .u8) 5 wc w1.heap.size (fun j => w4.heap.size ≤ j) (.slice A7 sn c7) d) ∧ Aside0 (cb < xb))
    case first =>
      refine Go.Reg.region_fork (Only cb w4) [.s, .s, .s, .s, .s, .s, .s, .s, .s, .s, .s, .s, .s, .s, .s, .s, .w, .p, .w, .x] [0, 1, 2, 3, 4, 5, 6, 7, 8, 9, 10, 11, 12, 13, 14, 15] 16 18 [17, 18, 19] [16, 17, 19] (by kernel_rfl) (by kernel_rfl) (.of_below (below_drew1 (Below.refl _ _))) (fun ne => ?_)
      have hm : ∀ (j : Nat) (v : Int), j < 5 → ([k, (sn : Int), lf, e, n] : List Int).getD j 0 = v → ∀ m : Go.Reg.In (Only cb w4), m.w.cell? ⟨gl, j, none⟩ = some (.int .i64 v) := fun j v hj hv m => by
        have h1 := HI.out j v hj hv
        rw [cell_blk HGB.out] at h1
        rw [cell_blk ((m.h.block gl (blk_lt HGB.out) HGL.out).trans HGB.out)]
        exact h1
      have hm0 := hm 0 k (by decide) rfl
      have hm1 := hm 1 (sn : Int) (by decide) rfl
      have hm2 := hm 2 lf (by decide) rfl
      have hm3 := hm 3 e (by decide) rfl
      have hm4 := hm 4 n (by decide) rfl
      clear hm
      dsimp only [Go.Reg.pick, List.filterMap, List.map, List.getD_eq_getElem?_getD]
      simp only [List.getElem?_toArray, List.getElem?_cons_zero, List.getElem?_cons_succ, List.filterMap_cons, List.filterMap_nil, Option.getD_some]
      refine Go.Reg.lex_q 16 _ _ _ _ (by rfl) ?_; simp only [List.take_succ_cons, List.take_zero, List.drop_succ_cons, List.drop_zero]; (repeat (go_big_quiet_step (rfl))); refine wpQuiet_nil ?_
      refine Go.Reg.lex_nil ?_
      clear hm0 hm1 hm2 hm3 hm4
      have HOD := Aside0.mk (Only.of_below (b := cb) (below_drew1 (Below.refl w4.heap.size w4)))
      have HGD := Aside0.mk (HG.out.step (below_drew1 (Below.refl w4.heap.size w4)))
      refine ⟨?_, ?_, fun o ho => ?_⟩
      · refine Go.Reg.step_w (fun KK hKK => ?_)
        go_wp2_with fail
        refine (take_yes HGD.out.pc sn (by rw [List.length_drop, HLO.out]; have := HK48.out; omega)).mono ?_
        rintro z w5 ⟨v7, rfl, hr, hp, ho⟩
        rw [← HD.out] at hr
        rw [← HRS.out] at hp
        obtain ⟨A7, c7, rfl⟩ := Kd.R_slice hr
        rw [HDL.out] at hr ⊢
        have HO5 := Aside0.mk (HOD.out.trans ho)
        have HP5 := Aside0.mk hp
        have HR5 := Aside0.mk (show Kd.R (Kd.int .u8) 5 w5 w1.heap.size (fun j => w4.heap.size ≤ j) (.slice A7 sn c7) d from Kd.R_lower (base' := w1.heap.size) (R_bnd hr) (by have := HGD.out.pc; have := (pc_lt this); have : w4.drew.heap.size = w4.heap.size := rfl; omega))
        clear hr hp ho
        go_wp2_with fail
        refine hKK.out _ _ HO5.out ?_
        clear hKK KK
        refine Go.Reg.lex_qp 1 _ _ _ _ _ (by rfl) ?_; simp only [List.take_succ_cons, List.take_zero, List.drop_succ_cons, List.drop_zero]; (repeat (go_big_quiet_step (rfl))); refine wpQuiet_nil ?_
        refine Go.Reg.step_w (fun KK hKK => ?_)
        go_wp2_with fail
        have hal := (Below.refl w5.heap.size w5).alloc (Nat.le_refl _) (.cells #[.int .i64 0, .int .i64 0, .int .i64 0, .int .i64 0, .slice none 0 0] 44)
        have hnb := heap_alloc_new w5 (.cells #[.int .i64 0, .int .i64 0, .int .i64 0, .int .i64 0, .slice none 0 0] 44)
        obtain ⟨w6, hw6⟩ : ∃ w6, w6 = w5.alloc (.cells #[.int .i64 0, .int .i64 0, .int .i64 0, .int .i64 0, .slice none 0 0] 44) := ⟨_, rfl⟩
        rw [← hw6] at hal hnb
        rw [← hw6]
        have HO6 := Aside0.mk (HO5.out.trans (.of_below hal))
        have HP6 := Aside0.mk (HP5.out.only (b := 0) hal)
        have HR6 := Aside0.mk (Kd.R_below HR5.out hal)
        have hub := HO5.out.size
        obtain ⟨xb, hxb⟩ : ∃ xb, xb = w5.heap.size := ⟨_, rfl⟩
        rw [← hxb] at hnb hub
        rw [← hxb]
        have HNB := Aside0.mk hnb
        have HUB := Aside0.mk hub
        clear hw6 hal hnb hxb hub
        refine hKK.out _ _ HO6.out ?_
        clear hKK KK
        have e0 : w6.cell? ⟨xb, 0, none⟩ = some (.int .i64 0) := cell_blk HNB.out
        have e1 : w6.cell? ⟨xb, 1, none⟩ = some (.int .i64 0) := cell_blk HNB.out
        have e2 : w6.cell? ⟨xb, 2, none⟩ = some (.int .i64 0) := cell_blk HNB.out
        have e3 : w6.cell? ⟨xb, 3, none⟩ = some (.int .i64 0) := cell_blk HNB.out
        have e4 : w6.cell? ⟨xb, 4, none⟩ = some (.slice none 0 0) := cell_blk HNB.out
        have g0 : w6.frozen? ⟨xb, 0, none⟩ = false := frozen_blk HNB.out
        have g1 : w6.frozen? ⟨xb, 1, none⟩ = false := frozen_blk HNB.out
        have g2 : w6.frozen? ⟨xb, 2, none⟩ = false := frozen_blk HNB.out
        have g3 : w6.frozen? ⟨xb, 3, none⟩ = false := frozen_blk HNB.out
        have g4 : w6.frozen? ⟨xb, 4, none⟩ = false := frozen_blk HNB.out
        refine Go.Reg.step_x (by rfl) (fun KK hKK => ?_)
        go_wp2_with fail
        refine hKK.out _ _ ?_
        clear hKK KK
        try simp only [Act.put, List.setIfInBounds_toArray, List.set_cons_succ, List.set_cons_zero]
        refine Go.Reg.lex_nil ?_
        clear e0 e1 e2 e3 e4 g0 g1 g2 g3 g4
        go_wp2_with fail
        go_meet
        case rel =>
          exact ⟨xb, A7, c7, rfl, ⟨HG.out.only (sets5 HO6.out HUB.out _ _ _ _ _) (pc_other HP6.out HNB.out (five_but _ _ _ _ _))⟩, ⟨five_set HNB.out _ _ _ _ _⟩, ⟨R_other HR6.out HNB.out (by decide) (five_but _ _ _ _ _)⟩, ⟨by have := HG.out.cur; have := HUB.out; omega⟩⟩
      · refine Go.Reg.step_w (fun KK hKK => ?_)
        go_wp2_with fail
        obtain ⟨w5, hw5⟩ : ∃ w5, w5 = (w4.alloc (.cells #[.int .i64 0, .int .i64 0, .int .i64 0, .int .i64 0, .slice none 0 0] 44)).drew := ⟨_, rfl⟩
        have hal : Below w4.drew.heap.size w4.drew w5 := by rw [hw5]; exact (Below.refl w4.drew.heap.size w4.drew).alloc (Nat.le_refl _) (.cells #[.int .i64 0, .int .i64 0, .int .i64 0, .int .i64 0, .slice none 0 0] 44)
        have hnb : w5.heap[w4.heap.size]? = some (.cells #[.int .i64 0, .int .i64 0, .int .i64 0, .int .i64 0, .slice none 0 0] 44 (0, 0)) := by rw [hw5]; exact heap_alloc_new w4.drew (.cells #[.int .i64 0, .int .i64 0, .int .i64 0, .int .i64 0, .slice none 0 0] 44)
        rw [← hw5]
        have HO5 := Aside0.mk (HOD.out.trans (.of_below hal))
        have HGE := Aside0.mk (HGD.out.step hal)
        obtain ⟨xb, hxb⟩ : ∃ xb, xb = w4.heap.size := ⟨_, rfl⟩
        have hub : w4.heap.size ≤ xb := by omega
        have HNB5 := Aside0.mk hnb
        have HUB := Aside0.mk hub
        rw [← hxb] at HNB5
        rw [← hxb]
        have HXC := Aside0.mk (show xb ≠ cb by have := HG.out.cur; omega)
        clear hw5 hal hnb hxb hub
        refine hKK.out _ _ HO5.out ?_
        clear hKK KK
        refine Go.Reg.step_w (fun KK hKK => ?_)
        go_wp2_with fail
        refine (take_yes HGE.out.pc sn (by rw [List.length_drop, HLO.out]; have := HK48.out; omega)).mono ?_
        rintro z w6 ⟨v7, rfl, hr, hp, ho⟩
        rw [← HD.out] at hr
        rw [← HRS.out] at hp
        obtain ⟨A7, c7, rfl⟩ := Kd.R_slice hr
        rw [HDL.out] at hr ⊢
        have HO6 := Aside0.mk (HO5.out.trans ho)
        have HP6 := Aside0.mk hp
        have HNB := Aside0.mk ((ho.block xb (blk_lt HNB5.out) HXC.out).trans HNB5.out)
        have HR6 := Aside0.mk (show Kd.R (Kd.int .u8) 5 w6 w1.heap.size (fun j => w4.heap.size ≤ j) (.slice A7 sn c7) d from Kd.R_mono (Kd.R_lower (base' := w1.heap.size) (R_bnd hr) (by have := (pc_lt HGE.out.pc); omega)) (fun j hj => Nat.le_trans HO5.out.size hj))
        clear hr hp ho
        go_wp2_with fail
        refine hKK.out _ _ HO6.out ?_
        clear hKK KK
        refine Go.Reg.lex_qp 1 _ _ _ _ _ (by rfl) ?_; simp only [List.take_succ_cons, List.take_zero, List.drop_succ_cons, List.drop_zero]; (repeat (go_big_quiet_step (rfl))); refine wpQuiet_nil ?_
        have e0 : w6.cell? ⟨xb, 0, none⟩ = some (.int .i64 0) := cell_blk HNB.out
        have e1 : w6.cell? ⟨xb, 1, none⟩ = some (.int .i64 0) := cell_blk HNB.out
        have e2 : w6.cell? ⟨xb, 2, none⟩ = some (.int .i64 0) := cell_blk HNB.out
        have e3 : w6.cell? ⟨xb, 3, none⟩ = some (.int .i64 0) := cell_blk HNB.out
        have e4 : w6.cell? ⟨xb, 4, none⟩ = some (.slice none 0 0) := cell_blk HNB.out
        have g0 : w6.frozen? ⟨xb, 0, none⟩ = false := frozen_blk HNB.out
        have g1 : w6.frozen? ⟨xb, 1, none⟩ = false := frozen_blk HNB.out
        have g2 : w6.frozen? ⟨xb, 2, none⟩ = false := frozen_blk HNB.out
        have g3 : w6.frozen? ⟨xb, 3, none⟩ = false := frozen_blk HNB.out
        have g4 : w6.frozen? ⟨xb, 4, none⟩ = false := frozen_blk HNB.out
        refine Go.Reg.step_x (by rfl) (fun KK hKK => ?_)
        go_wp2_with fail
        refine hKK.out _ _ ?_
        clear hKK KK
        try simp only [Act.put, List.setIfInBounds_toArray, List.set_cons_succ, List.set_cons_zero]
        refine Go.Reg.lex_nil ?_
        clear e0 e1 e2 e3 e4 g0 g1 g2 g3 g4
        go_wp2_with fail
        go_meet
        case rel =>
          exact ⟨xb, A7, c7, rfl, ⟨HG.out.only (sets5 HO6.out HUB.out _ _ _ _ _) (pc_other HP6.out HNB.out (five_but _ _ _ _ _))⟩, ⟨five_set HNB.out _ _ _ _ _⟩, ⟨R_other HR6.out HNB.out (by decide) (five_but _ _ _ _ _)⟩, ⟨by have := HG.out.cur; have := HUB.out; omega⟩⟩
      · rcases ho with ho | ho <;> (cases ho; rfl)
    case rest =>
      have HCQ := Aside0.mk HG.out.cur
      obtain ⟨xb, A7, c7, rfl, HG, HXB, HR8, HCX⟩ := hcut
      go_wp2_with fail
      refine (bad_any HG.out.pc).mono ?_
      rintro z w8 ⟨rfl, hw8⟩
      obtain rfl : w8 = wc := hw8
      have x0 : w8.cell? ⟨xb, 0, none⟩ = some (.int .i64 k) := cell_blk HXB.out
      have x1 : w8.cell? ⟨xb, 1, none⟩ = some (.int .i64 e) := cell_blk HXB.out
      have x2 : w8.cell? ⟨xb, 2, none⟩ = some (.int .i64 n) := cell_blk HXB.out
      have x3 : w8.cell? ⟨xb, 3, none⟩ = some (.int .i64 lf) := cell_blk HXB.out
      have x4 : w8.cell? ⟨xb, 4, none⟩ = some (.slice A7 sn c7) := cell_blk HXB.out
      go_wp2_with fail
      have hm := PSectorGets.sector_may.calls k e n lf A7 c7 d (secOk k e n lf d) w8 (row_at HR8.out) (by have := (Kd.R_reads' HR8.out).2.1; rw [HDL.out]; exact this) (may_plain k e n lf d)
      rw [HDL.out] at hm
      by_cases hok : secOk k e n lf d = true
      · rw [hok] at hm
        refine hm.mono ?_
        clear hm x0 x1 x2 x3 x4
        rintro z w9 ⟨rfl, b9⟩
        have HOK := Aside0.mk hok
        have HX9 := Aside0.mk ((b9.block _ (blk_lt HXB.out)).trans HXB.out)
        have HR9 := Aside0.mk (Kd.R_below HR8.out b9)
        have hg := HG.out.step b9
        clear HG b9 hok HXB HR8
        have HG := Aside0.mk hg
        clear hg
        go_wp2_with fail
        refine (left_any HG.out.pc).mono ?_
        rintro z w9' ⟨rfl, hw9'⟩
        obtain rfl : w9' = w9 := hw9'
        go_wp2_with fail
        refine (take_yes HG.out.pc rs.length (Nat.le_refl _)).mono ?_
        rintro z w10 ⟨v10, rfl, hr, hp, ho⟩
        rw [List.take_length] at hr
        have HO10 := Aside0.mk ho
        have HV10 := Aside0.mk hr
        clear hr hp ho
        obtain ⟨A10, c10, rfl⟩ := Kd.R_slice HV10.out
        go_wp2_with ((with_reducible refine gate_builtin (b := .append) (xs := #[.tmp 57, .tmp 58]) rfl ?_); at_builtin; refine Hid.out ?_)
        refine Lib.hid ?_
        obtain ⟨w11, hw11⟩ : ∃ w11, w11 = w10.alloc (.cells #[.int .u8 0] 5) := ⟨_, rfl⟩
        have hb11 : Below w10.heap.size w10 w11 := by rw [hw11]; exact (Below.refl _ _).alloc (Nat.le_refl _) _
        have hn11 : w11.heap[w10.heap.size]? = some (.cells #[.int .u8 0] 5 (0, 0)) := by rw [hw11]; exact heap_alloc_new w10 _
        rw [← hw11]
        clear hw11
        have HO11 := Aside0.mk (HO10.out.trans (Only.of_below hb11))
        have HV11 := Aside0.mk (Kd.R_below HV10.out hb11)
        have HN11 := Aside0.mk (rowN hn11)
        clear HO10 HV10 hb11 hn11
        have HRL := Aside0.mk (show rs.length ≤ 60 by rw [HRS.out, List.length_drop, List.length_drop, HLO.out]; omega)
        have HRB := Aside0.mk (show ∀ y ∈ rs ++ [0], 0 ≤ y ∧ y ≤ 255 from fun y hy => by
          rcases List.mem_append.1 hy with h | h
          · exact HOB.out y (by rw [HRS.out] at h; exact List.mem_of_mem_drop (List.mem_of_mem_drop h))
          · rw [List.mem_singleton.1 h]; omega)
        refine wpList_step (fun K' hK => ?_)
        refine Kd.R_append_rows_step (Kd.int .u8) (Rr := (Kd.int .u8).K w11) (w0 := w11) w9'.heap.size (by rfl) (.tmp 57) (.tmp 58) 22 5 (.int .u8 0) 1 rfl Try.underlying22 infoU8 rfl (by decide) (by omega) (.slice A10 rs.length c10) rs [0] _ _ _ (fun _ => True) (fun _ => False) rfl rfl HV11.out HN11.out (fun x cs h => h) (fun _ hk => hk.elim) (fun _ _ => trivial) (Below.refl _ _) HO11.out.size (by have := HRL.out; simp; omega) ?_
        intro v12 w12 hr12 hb12 _ _
        refine hK _ _ ?_
        clear hK K'
        have HO12 := Aside0.mk (show Only cb w9' w12 from only_trans' HO11.out hb12)
        have HV12 := Aside0.mk hr12
        obtain ⟨A12, c12, rfl⟩ := Kd.R_slice hr12
        clear hr12 hb12 HO11 HV11 HN11
        have hln : (rs ++ [0]).length = rs.length + 1 := by rw [List.length_append]; rfl
        have hmx := max_any A12 c12 (rs ++ [0]) (row_at HV12.out) HRB.out (by rw [hln]; omega) (by rw [hln]; have := HRL.out; omega)
        obtain ⟨ln, hlnn⟩ : ∃ ln, ln = (rs ++ [0]).length := ⟨_, rfl⟩
        obtain ⟨m, hm⟩ : ∃ m, m = maxL (rs ++ [0]) := ⟨_, rfl⟩
        have hmr := maxL_range (rs ++ [0]) HRB.out
        rw [← hlnn, ← hm] at hmx
        rw [← hm] at hmr
        rw [← hlnn]
        have HM := Aside0.mk (show m = maxL (own.drop (12 + sn)) by
          rw [hm, maxL_snoc _ _ (by omega), HRS.out, List.drop_drop]
          have := (maxL_range (own.drop (12 + sn)) (fun y hy => HOB.out y (List.mem_of_mem_drop hy))).1
          first
          | (rw [Nat.add_comm sn 12]; omega)
          | omega)
        have HX12 := Aside0.mk ((HO12.out.block _ (blk_lt HX9.out) (by have := HCX.out; omega)).trans HX9.out)
        have HR12 := Aside0.mk (R_oldS HR9.out HO12.out HCQ.out)
        have HBW := Aside0.mk (HG.out.end_ HO12.out).1
        have HZ := Aside0.mk (HG.out.end_ HO12.out).2
        clear hm hln hlnn HX9 HR9 HV12
        by_cases h0 : m = 0
        · subst h0
          go_wp2_with fail
          refine hmx.mono ?_
          clear hmx
          rintro z w13 ⟨rfl, hw13⟩
          obtain rfl : w13 = w12 := hw13
          have z0 : w13.cell? ⟨w.heap.size, 0, none⟩ = some (.int .i64 0) := cell_blk HZ.out
          have z1 : w13.cell? ⟨w.heap.size, 1, none⟩ = some (.int .i64 0) := cell_blk HZ.out
          have z2 : w13.cell? ⟨w.heap.size, 2, none⟩ = some (.int .i64 0) := cell_blk HZ.out
          have z3 : w13.cell? ⟨w.heap.size, 3, none⟩ = some (.int .i64 0) := cell_blk HZ.out
          have z4 : w13.cell? ⟨w.heap.size, 4, none⟩ = some (.slice none 0 0) := cell_blk HZ.out
          have f0 : w13.frozen? ⟨w.heap.size, 0, none⟩ = false := frozen_blk HZ.out
          have f1 : w13.frozen? ⟨w.heap.size, 1, none⟩ = false := frozen_blk HZ.out
          have f2 : w13.frozen? ⟨w.heap.size, 2, none⟩ = false := frozen_blk HZ.out
          have f3 : w13.frozen? ⟨w.heap.size, 3, none⟩ = false := frozen_blk HZ.out
          have f4 : w13.frozen? ⟨w.heap.size, 4, none⟩ = false := frozen_blk HZ.out
          have y0 : w13.cell? ⟨xb, 0, none⟩ = some (.int .i64 k) := cell_blk HX12.out
          have y1 : w13.cell? ⟨xb, 1, none⟩ = some (.int .i64 e) := cell_blk HX12.out
          have y2 : w13.cell? ⟨xb, 2, none⟩ = some (.int .i64 n) := cell_blk HX12.out
          have y3 : w13.cell? ⟨xb, 3, none⟩ = some (.int .i64 lf) := cell_blk HX12.out
          have y4 : w13.cell? ⟨xb, 4, none⟩ = some (.slice A7 sn c7) := cell_blk HX12.out
          go_wp2_with fail
          refine bodyPost_ret (results_ct rfl _ _ w.heap.size 44 #[.int .i64 k, .int .i64 e, .int .i64 n, .int .i64 lf, .slice A7 sn c7] (0, 0) _ rfl (five_set HZ.out _ _ _ _ _) Try.underlying44 rfl (by kernel_rfl)) rfl ?_
          have hr5 : r = (⟨k, e, n, lf, d⟩, 0) := by
            rw [HQ.out, if_pos]
            · rw [HRAW.out, HD.out]
            · unfold okS
              rw [HRAW.out, HSZ.out, ← HD.out, HOK.out, Int.toNat_natCast, ← HM.out, decide_eq_true (by have := HK48.out; omega)]
              rfl
          have hrr := R_other HR12.out HZ.out (by decide) (five_but (.int .i64 k) (.int .i64 e) (.int .i64 n) (.int .i64 lf) (.slice A7 sn c7))
          exact ⟨_, by rw [hr5]; rfl, by rw [hr5]; exact Kd.R_mono (Kd.R_lower hrr HB1.out.size) (fun _ _ => trivial), five_below HBW.out (Nat.le_refl _) _ _ _ _ _⟩
        · have hgt : 0 < m := by omega
          have hgd : decide (0 < m) = true := decide_eq_true hgt
          go_wp2_with fail
          refine hmx.mono ?_
          clear hmx
          rintro z w13 ⟨rfl, hw13⟩
          obtain rfl : w13 = w12 := hw13
          have z0 : w13.cell? ⟨w.heap.size, 0, none⟩ = some (.int .i64 0) := cell_blk HZ.out
          have z1 : w13.cell? ⟨w.heap.size, 1, none⟩ = some (.int .i64 0) := cell_blk HZ.out
          have z2 : w13.cell? ⟨w.heap.size, 2, none⟩ = some (.int .i64 0) := cell_blk HZ.out
          have z3 : w13.cell? ⟨w.heap.size, 3, none⟩ = some (.int .i64 0) := cell_blk HZ.out
          have z4 : w13.cell? ⟨w.heap.size, 4, none⟩ = some (.slice none 0 0) := cell_blk HZ.out
          have f0 : w13.frozen? ⟨w.heap.size, 0, none⟩ = false := frozen_blk HZ.out
          have f1 : w13.frozen? ⟨w.heap.size, 1, none⟩ = false := frozen_blk HZ.out
          have f2 : w13.frozen? ⟨w.heap.size, 2, none⟩ = false := frozen_blk HZ.out
          have f3 : w13.frozen? ⟨w.heap.size, 3, none⟩ = false := frozen_blk HZ.out
          have f4 : w13.frozen? ⟨w.heap.size, 4, none⟩ = false := frozen_blk HZ.out
          have HR5 := Aside0.mk (show r = (zeroS, 5) by rw [HQ.out, if_neg]; unfold okS; rw [HSZ.out, Int.toNat_natCast, ← HM.out, decide_eq_false h0, Bool.and_false, Bool.and_false]; decide)
          go_wp2_with fail
          refine bodyPost_ret (results_ct rfl _ _ w.heap.size 44 #[.int .i64 0, .int .i64 0, .int .i64 0, .int .i64 0, .slice none 0 0] (0, 0) _ rfl (five_set HZ.out _ _ _ _ _) Try.underlying44 rfl (by kernel_rfl)) rfl ?_
          exact ⟨_, by rw [HR5.out]; rfl, by rw [HR5.out]; exact Kd.R_nil _ _ _ _ _, five_below HBW.out (Nat.le_refl _) _ _ _ _ _⟩
      · have hok' : secOk k e n lf d = false := by simpa using hok
        rw [hok'] at hm
        refine hm.mono ?_
        clear hm x0 x1 x2 x3 x4
        rintro z w9 ⟨rfl, b9⟩
        have HR5 := Aside0.mk (show r = (zeroS, 5) by rw [HQ.out, if_neg]; unfold okS; rw [HRAW.out, HSZ.out, ← HD.out, hok', Bool.false_and, Bool.and_false]; decide)
        have hg := HG.out.step b9
        clear HG b9 hok hok' HXB HR8
        have HG := Aside0.mk hg
        clear hg
        have hz := HG.out.zero
        have z0 : w9.cell? ⟨w.heap.size, 0, none⟩ = some (.int .i64 0) := cell_blk hz
        have z1 : w9.cell? ⟨w.heap.size, 1, none⟩ = some (.int .i64 0) := cell_blk hz
        have z2 : w9.cell? ⟨w.heap.size, 2, none⟩ = some (.int .i64 0) := cell_blk hz
        have z3 : w9.cell? ⟨w.heap.size, 3, none⟩ = some (.int .i64 0) := cell_blk hz
        have z4 : w9.cell? ⟨w.heap.size, 4, none⟩ = some (.slice none 0 0) := cell_blk hz
        have f0 : w9.frozen? ⟨w.heap.size, 0, none⟩ = false := frozen_blk hz
        have f1 : w9.frozen? ⟨w.heap.size, 1, none⟩ = false := frozen_blk hz
        have f2 : w9.frozen? ⟨w.heap.size, 2, none⟩ = false := frozen_blk hz
        have f3 : w9.frozen? ⟨w.heap.size, 3, none⟩ = false := frozen_blk hz
        have f4 : w9.frozen? ⟨w.heap.size, 4, none⟩ = false := frozen_blk hz
        clear hz
        go_wp2_with fail
        refine bodyPost_ret (results_ct rfl _ _ w.heap.size 44 #[.int .i64 0, .int .i64 0, .int .i64 0, .int .i64 0, .slice none 0 0] (0, 0) _ rfl (five_set HG.out.zero _ _ _ _ _) Try.underlying44 rfl (by kernel_rfl)) rfl ?_
        exact ⟨_, by rw [HR5.out]; rfl, by rw [HR5.out]; exact Kd.R_nil _ _ _ _ _, five_below HG.out.below (Nat.le_refl _) _ _ _ _ _⟩
  · have HNO := Aside0.mk (show takeOk (own.drop 12) false (sn : Int) = false by
      unfold takeOk
      rw [decide_eq_false (p := (sn : Int) ≤ ((own.drop 12).length : Int)) (by rw [List.length_drop, HLO.out]; omega), Bool.and_false, Bool.and_false])
    have HK48 := Aside0.mk hk48
    clear hk48
    go_upto_region 8 with (fail)
    go_cut [8] from 28 to 45 (fun v8 wc => ∃ (xb : Nat), v8 = .pointer (some ⟨xb, 0, none⟩) ∧ Aside0 (GT w wc w1.heap.size cb [] true))
    case first =>
      refine Go.Reg.region_fork (Only cb w4) [.s, .s, .s, .s, .s, .s, .s, .s, .s, .s, .s, .s, .s, .s, .s, .s, .w, .p, .w, .x] [0, 1, 2, 3, 4, 5, 6, 7, 8, 9, 10, 11, 12, 13, 14, 15] 16 18 [17, 18, 19] [16, 17, 19] (by kernel_rfl) (by kernel_rfl) (.of_below (below_drew1 (Below.refl _ _))) (fun ne => ?_)
      have hm : ∀ (j : Nat) (v : Int), j < 5 → ([k, (sn : Int), lf, e, n] : List Int).getD j 0 = v → ∀ m : Go.Reg.In (Only cb w4), m.w.cell? ⟨gl, j, none⟩ = some (.int .i64 v) := fun j v hj hv m => by
        have h1 := HI.out j v hj hv
        rw [cell_blk HGB.out] at h1
        rw [cell_blk ((m.h.block gl (blk_lt HGB.out) HGL.out).trans HGB.out)]
        exact h1
      have hm0 := hm 0 k (by decide) rfl
      have hm1 := hm 1 (sn : Int) (by decide) rfl
      have hm2 := hm 2 lf (by decide) rfl
      have hm3 := hm 3 e (by decide) rfl
      have hm4 := hm 4 n (by decide) rfl
      clear hm
      dsimp only [Go.Reg.pick, List.filterMap, List.map, List.getD_eq_getElem?_getD]
      simp only [List.getElem?_toArray, List.getElem?_cons_zero, List.getElem?_cons_succ, List.filterMap_cons, List.filterMap_nil, Option.getD_some]
      refine Go.Reg.lex_q 16 _ _ _ _ (by rfl) ?_; simp only [List.take_succ_cons, List.take_zero, List.drop_succ_cons, List.drop_zero]; (repeat (go_big_quiet_step (rfl))); refine wpQuiet_nil ?_
      refine Go.Reg.lex_nil ?_
      clear hm0 hm1 hm2 hm3 hm4
      have HOD := Aside0.mk (Only.of_below (b := cb) (below_drew1 (Below.refl w4.heap.size w4)))
      have HGD := Aside0.mk (HG.out.step (below_drew1 (Below.refl w4.heap.size w4)))
      refine ⟨?_, ?_, fun o ho => ?_⟩
      · refine Go.Reg.step_w (fun KK hKK => ?_)
        go_wp2_with fail
        refine (take_no HGD.out.pc (sn : Int) HNO.out).mono ?_
        rintro z w5 ⟨rfl, hp, ho⟩
        have HO5 := Aside0.mk (HOD.out.trans ho)
        have HP5 := Aside0.mk hp
        clear hp ho
        go_wp2_with fail
        refine hKK.out _ _ HO5.out ?_
        clear hKK KK
        refine Go.Reg.lex_qp 1 _ _ _ _ _ (by rfl) ?_; simp only [List.take_succ_cons, List.take_zero, List.drop_succ_cons, List.drop_zero]; (repeat (go_big_quiet_step (rfl))); refine wpQuiet_nil ?_
        refine Go.Reg.step_w (fun KK hKK => ?_)
        go_wp2_with fail
        have hal := (Below.refl w5.heap.size w5).alloc (Nat.le_refl _) (.cells #[.int .i64 0, .int .i64 0, .int .i64 0, .int .i64 0, .slice none 0 0] 44)
        have hnb := heap_alloc_new w5 (.cells #[.int .i64 0, .int .i64 0, .int .i64 0, .int .i64 0, .slice none 0 0] 44)
        obtain ⟨w6, hw6⟩ : ∃ w6, w6 = w5.alloc (.cells #[.int .i64 0, .int .i64 0, .int .i64 0, .int .i64 0, .slice none 0 0] 44) := ⟨_, rfl⟩
        rw [← hw6] at hal hnb
        rw [← hw6]
        have HO6 := Aside0.mk (HO5.out.trans (.of_below hal))
        have HP6 := Aside0.mk (HP5.out.only (b := 0) hal)
        have hub := HO5.out.size
        obtain ⟨xb, hxb⟩ : ∃ xb, xb = w5.heap.size := ⟨_, rfl⟩
        rw [← hxb] at hnb hub
        rw [← hxb]
        have HNB := Aside0.mk hnb
        have HUB := Aside0.mk hub
        clear hw6 hal hnb hxb hub
        refine hKK.out _ _ HO6.out ?_
        clear hKK KK
        have e0 : w6.cell? ⟨xb, 0, none⟩ = some (.int .i64 0) := cell_blk HNB.out
        have e1 : w6.cell? ⟨xb, 1, none⟩ = some (.int .i64 0) := cell_blk HNB.out
        have e2 : w6.cell? ⟨xb, 2, none⟩ = some (.int .i64 0) := cell_blk HNB.out
        have e3 : w6.cell? ⟨xb, 3, none⟩ = some (.int .i64 0) := cell_blk HNB.out
        have e4 : w6.cell? ⟨xb, 4, none⟩ = some (.slice none 0 0) := cell_blk HNB.out
        have g0 : w6.frozen? ⟨xb, 0, none⟩ = false := frozen_blk HNB.out
        have g1 : w6.frozen? ⟨xb, 1, none⟩ = false := frozen_blk HNB.out
        have g2 : w6.frozen? ⟨xb, 2, none⟩ = false := frozen_blk HNB.out
        have g3 : w6.frozen? ⟨xb, 3, none⟩ = false := frozen_blk HNB.out
        have g4 : w6.frozen? ⟨xb, 4, none⟩ = false := frozen_blk HNB.out
        refine Go.Reg.step_x (by rfl) (fun KK hKK => ?_)
        go_wp2_with fail
        refine hKK.out _ _ ?_
        clear hKK KK
        try simp only [Act.put, List.setIfInBounds_toArray, List.set_cons_succ, List.set_cons_zero]
        refine Go.Reg.lex_nil ?_
        clear e0 e1 e2 e3 e4 g0 g1 g2 g3 g4
        go_wp2_with fail
        go_meet
        case rel =>
          exact ⟨xb, rfl, ⟨HG.out.only (sets5 HO6.out HUB.out _ _ _ _ _) (pc_other HP6.out HNB.out (five_but _ _ _ _ _))⟩⟩
      · refine Go.Reg.step_w (fun KK hKK => ?_)
        go_wp2_with fail
        obtain ⟨w5, hw5⟩ : ∃ w5, w5 = (w4.alloc (.cells #[.int .i64 0, .int .i64 0, .int .i64 0, .int .i64 0, .slice none 0 0] 44)).drew := ⟨_, rfl⟩
        have hal : Below w4.drew.heap.size w4.drew w5 := by rw [hw5]; exact (Below.refl w4.drew.heap.size w4.drew).alloc (Nat.le_refl _) (.cells #[.int .i64 0, .int .i64 0, .int .i64 0, .int .i64 0, .slice none 0 0] 44)
        have hnb : w5.heap[w4.heap.size]? = some (.cells #[.int .i64 0, .int .i64 0, .int .i64 0, .int .i64 0, .slice none 0 0] 44 (0, 0)) := by rw [hw5]; exact heap_alloc_new w4.drew (.cells #[.int .i64 0, .int .i64 0, .int .i64 0, .int .i64 0, .slice none 0 0] 44)
        rw [← hw5]
        have HO5 := Aside0.mk (HOD.out.trans (.of_below hal))
        have HGE := Aside0.mk (HGD.out.step hal)
        obtain ⟨xb, hxb⟩ : ∃ xb, xb = w4.heap.size := ⟨_, rfl⟩
        have hub : w4.heap.size ≤ xb := by omega
        have HNB5 := Aside0.mk hnb
        have HUB := Aside0.mk hub
        rw [← hxb] at HNB5
        rw [← hxb]
        have HXC := Aside0.mk (show xb ≠ cb by have := HG.out.cur; omega)
        clear hw5 hal hnb hxb hub
        refine hKK.out _ _ HO5.out ?_
        clear hKK KK
        refine Go.Reg.step_w (fun KK hKK => ?_)
        go_wp2_with fail
        refine (take_no HGE.out.pc (sn : Int) HNO.out).mono ?_
        rintro z w6 ⟨rfl, hp, ho⟩
        have HO6 := Aside0.mk (HO5.out.trans ho)
        have HP6 := Aside0.mk hp
        have HNB := Aside0.mk ((ho.block xb (blk_lt HNB5.out) HXC.out).trans HNB5.out)
        clear hp ho
        go_wp2_with fail
        refine hKK.out _ _ HO6.out ?_
        clear hKK KK
        refine Go.Reg.lex_qp 1 _ _ _ _ _ (by rfl) ?_; simp only [List.take_succ_cons, List.take_zero, List.drop_succ_cons, List.drop_zero]; (repeat (go_big_quiet_step (rfl))); refine wpQuiet_nil ?_
        have e0 : w6.cell? ⟨xb, 0, none⟩ = some (.int .i64 0) := cell_blk HNB.out
        have e1 : w6.cell? ⟨xb, 1, none⟩ = some (.int .i64 0) := cell_blk HNB.out
        have e2 : w6.cell? ⟨xb, 2, none⟩ = some (.int .i64 0) := cell_blk HNB.out
        have e3 : w6.cell? ⟨xb, 3, none⟩ = some (.int .i64 0) := cell_blk HNB.out
        have e4 : w6.cell? ⟨xb, 4, none⟩ = some (.slice none 0 0) := cell_blk HNB.out
        have g0 : w6.frozen? ⟨xb, 0, none⟩ = false := frozen_blk HNB.out
        have g1 : w6.frozen? ⟨xb, 1, none⟩ = false := frozen_blk HNB.out
        have g2 : w6.frozen? ⟨xb, 2, none⟩ = false := frozen_blk HNB.out
        have g3 : w6.frozen? ⟨xb, 3, none⟩ = false := frozen_blk HNB.out
        have g4 : w6.frozen? ⟨xb, 4, none⟩ = false := frozen_blk HNB.out
        refine Go.Reg.step_x (by rfl) (fun KK hKK => ?_)
        go_wp2_with fail
        refine hKK.out _ _ ?_
        clear hKK KK
        try simp only [Act.put, List.setIfInBounds_toArray, List.set_cons_succ, List.set_cons_zero]
        refine Go.Reg.lex_nil ?_
        clear e0 e1 e2 e3 e4 g0 g1 g2 g3 g4
        go_wp2_with fail
        go_meet
        case rel =>
          exact ⟨xb, rfl, ⟨HG.out.only (sets5 HO6.out HUB.out _ _ _ _ _) (pc_other HP6.out HNB.out (five_but _ _ _ _ _))⟩⟩
      · rcases ho with ho | ho <;> (cases ho; rfl)
    case rest =>
      obtain ⟨xb, rfl, HG⟩ := hcut
      have HR5 := Aside0.mk (show r = (zeroS, 5) by rw [HQ.out, if_neg]; unfold okS; rw [HSZ.out, decide_eq_false (by have := HK48.out; omega), Bool.false_and]; decide)
      go_wp2_with fail
      refine (bad_any HG.out.pc).mono ?_
      rintro z w8 ⟨rfl, hw8⟩
      obtain rfl : w8 = wc := hw8
      have z0 : w8.cell? ⟨w.heap.size, 0, none⟩ = some (.int .i64 0) := cell_blk HG.out.zero
      have z1 : w8.cell? ⟨w.heap.size, 1, none⟩ = some (.int .i64 0) := cell_blk HG.out.zero
      have z2 : w8.cell? ⟨w.heap.size, 2, none⟩ = some (.int .i64 0) := cell_blk HG.out.zero
      have z3 : w8.cell? ⟨w.heap.size, 3, none⟩ = some (.int .i64 0) := cell_blk HG.out.zero
      have z4 : w8.cell? ⟨w.heap.size, 4, none⟩ = some (.slice none 0 0) := cell_blk HG.out.zero
      have f0 : w8.frozen? ⟨w.heap.size, 0, none⟩ = false := frozen_blk HG.out.zero
      have f1 : w8.frozen? ⟨w.heap.size, 1, none⟩ = false := frozen_blk HG.out.zero
      have f2 : w8.frozen? ⟨w.heap.size, 2, none⟩ = false := frozen_blk HG.out.zero
      have f3 : w8.frozen? ⟨w.heap.size, 3, none⟩ = false := frozen_blk HG.out.zero
      have f4 : w8.frozen? ⟨w.heap.size, 4, none⟩ = false := frozen_blk HG.out.zero
      go_wp2_with fail
      refine bodyPost_ret (results_ct rfl _ _ w.heap.size 44 #[.int .i64 0, .int .i64 0, .int .i64 0, .int .i64 0, .slice none 0 0] (0, 0) _ rfl (five_set HG.out.zero _ _ _ _ _) Try.underlying44 rfl (by kernel_rfl)) rfl ?_
      exact ⟨_, by rw [HR5.out]; rfl, by rw [HR5.out]; exact Kd.R_nil _ _ _ _ _, five_below HG.out.below (Nat.le_refl _) _ _ _ _ _⟩
end Sect
end Go.Proofs.Ytkfbegmfepehiaa
