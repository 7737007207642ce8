/- The document's disk: simple functions, Read, Write, Flush. -/
import Derived.Test.YtooemgcijbdilaaH3
import Derived.Test.YtooemgcijbdilaaH4
import Derived.Below
import Derived.Lib.Hide
import Derived.OwnWalk
import Derived.WalkKit
import Derived.KernelRfl
import Derived.RowKit3
import Derived.Deep.LoopGhost
import Derived.Deep.QuietTactic
import Derived.BigQuiet
import Derived.WideLaws
import Derived.Great.BuildSlice
import Derived.Outline
import Derived.Deep.DeepCutAuto
import Derived.WalkSpells
import Derived.RegionTactic
import Derived.BigRegion
import Derived.WalkLawsBesides
namespace Go.Proofs.Ytooemgcijbdilaa
set_option linter.unusedVariables false
set_option linter.unusedSimpArgs false
open Go.RowKit Go.Proofs.YtooemgcijbdilaaW.PrintWords Go.Proofs.YtooemgcijbdilaaW.PrintLast Go.Proofs.YtooemgcijbdilaaW.PrintMore
namespace Disk
open Go.Disk PDiskDoes

abbrev kB : Kd (List Int) := Kd.slice 5 (Kd.int .u8)
/-- A disk of the document's in memory. -/
structure RDx (w : World) (base sb xb : Nat) (D : Dk) (vs vw : Value) : Prop where
  ok : Ok D
  xbase : base ≤ xb
  slt : sb < w.heap.size
  sown : ∀ k, vs.ownBlock = some k → base ≤ k
  wown : ∀ k, vw.ownBlock = some k → base ≤ k
  cells : w.heap[xb]? = some (.cells #[vs, vw, .int .i64 D.left, .bool D.off, .int .i64 D.reads, .int .i64 D.writes, .int .i64 D.flushes] 55 (0, 0))
  safe : Kd.R kB 30 w 0 (fun k => k ≠ sb) vs D.safe
  waits : Kd.R kW 93 w 0 (fun k => k ≠ sb) vw D.waits
def RD (w : World) (base sb xb : Nat) (D : Dk) : Prop := ∃ vs vw, RDx w base sb xb D vs vw
theorem RDx.below {w w' : World} {base sb xb : Nat} {D : Dk} {vs vw : Value} (h : RDx w base sb xb D vs vw) (b : Below w.heap.size w w') : RDx w' base sb xb D vs vw :=
  ⟨h.ok, h.xbase, Nat.lt_of_lt_of_le h.slt b.size, h.sown, h.wown, (b.block xb (blk_lt h.cells)).trans h.cells, Kd.R_below h.safe b, Kd.R_below h.waits b⟩
theorem RD.below {w w' : World} {base sb xb : Nat} {D : Dk} (h : RD w base sb xb D) (b : Below w.heap.size w w') : RD w' base sb xb D := by
  obtain ⟨vs, vw, h⟩ := h
  exact ⟨vs, vw, h.below b⟩
theorem RD.ok {w : World} {base sb xb : Nat} {D : Dk} (h : RD w base sb xb D) : Ok D := by
  obtain ⟨vs, vw, h⟩ := h
  exact h.ok
/-- A cell of the struct's own turned. -/
theorem RDx.put {w : World} {base sb xb : Nat} {D D' : Dk} {vs vw : Value} (h : RDx w base sb xb D vs vw) (k : Nat) (v : Value) (hok : Ok D') (hs : D'.safe = D.safe) (hw : D'.waits = D.waits)
    (hc : (#[vs, vw, .int .i64 D.left, .bool D.off, .int .i64 D.reads, .int .i64 D.writes, .int .i64 D.flushes] : Array Value).setIfInBounds k v = #[vs, vw, .int .i64 D'.left, .bool D'.off, .int .i64 D'.reads, .int .i64 D'.writes, .int .i64 D'.flushes]) :
    RDx (w.setCell ⟨xb, k, none⟩ v) base sb xb D' vs vw := by
  refine ⟨hok, h.xbase, by simpa [World.setCell] using h.slt, h.sown, h.wown, ?_, by rw [hs]; exact Kd.R_set h.safe h.cells (by decide) k v, by rw [hw]; exact Kd.R_set h.waits h.cells (by decide) k v⟩
  rw [blk_set h.cells k v, hc]
/-- The program's disk is changed: the document's lies as it lay. -/
theorem RDx.fp {w w' : World} {base base' db sb xb : Nat} {D : Dk} {vs vw : Value} {dc : Array Value} (h : RDx w base sb xb D vs vw) (hd : w.heap[db]? = some (.cells dc 75 (0, 0))) {sc : Array Value} (hs : w.heap[sb]? = some (.cells sc 5 (0, 0))) (f : FP base' db sb w w') : RDx w' base sb xb D vs vw := by
  have key : ∀ k, k < w.heap.size → k ≠ sb → (∃ q, (q = 30 ∨ q = 5 ∨ q = 93 ∨ q = 55) ∧ ∃ cells, w.heap[k]? = some (.cells cells q (0, 0))) → w'.heap[k]? = w.heap[k]? := by
    rintro k hk hne ⟨q, hq, cells, hc⟩
    refine f.block k hk ?_ (fun c t fz hc' => ?_)
    · rintro (rfl | rfl)
      · rw [hd] at hc
        cases hc
        rcases hq with h | h | h | h <;> exact absurd h (by decide)
      · exact hne rfl
    · rw [hc] at hc'
      cases hc'
      rintro ⟨_, rfl⟩
      rcases hq with h | h | h | h <;> exact absurd h (by decide)
  refine ⟨h.ok, h.xbase, Nat.lt_of_lt_of_le h.slt f.size, h.sown, h.wown, ?_, ?_, ?_⟩
  · refine (key xb (blk_lt h.cells) ?_ ⟨_, .inr (.inr (.inr rfl)), _, h.cells⟩).trans h.cells
    rintro rfl
    have := hs.symm.trans h.cells
    simp at this
  · refine Kd.R_mono (Kd.R_step (Kd.R_bound h.safe) (fun k hk hlt => ?_)) (fun _ hk => hk.1)
    obtain ⟨h1, _, _, q, hq, cells, hc⟩ := hk
    refine key k hlt h1 ⟨q, ?_, cells, hc⟩
    have hq' : q ∈ [30, 5] := hq
    simp at hq'
    rcases hq' with h | h
    · exact .inl h
    · exact .inr (.inl h)
  · refine Kd.R_mono (Kd.R_step (Kd.R_bound h.waits) (fun k hk hlt => ?_)) (fun _ hk => hk.1)
    obtain ⟨h1, _, _, q, hq, cells, hc⟩ := hk
    refine key k hlt h1 ⟨q, ?_, cells, hc⟩
    have hq' : q ∈ [93, 5] := hq
    simp at hq'
    rcases hq' with h | h
    · exact .inr (.inr (.inl h))
    · exact .inr (.inl h)
/-- The document's disk is changed: the program's lies as it lay. -/
theorem PDx.fx {w w' : World} {base base' db sb xb cs : Nat} {D : Dk} {vw : Value} {sp : List Value} {xc : Array Value} (h : PDx w base db sb D vw cs sp) (hx : w.heap[xb]? = some (.cells xc 55 (0, 0))) (f : FX base' xb w w') : PDx w' base db sb D vw cs sp := by
  have key : ∀ k, k < w.heap.size → (∃ q, (q = 77 ∨ q = 5 ∨ q = 75) ∧ ∃ cells, w.heap[k]? = some (.cells cells q (0, 0))) → w'.heap[k]? = w.heap[k]? := by
    rintro k hk ⟨q, hq, cells, hc⟩
    refine f.block k hk ?_ (fun c t fz hc' => ?_)
    · rintro rfl
      rw [hx] at hc
      cases hc
      rcases hq with h | h | h <;> exact absurd h (by decide)
    · rw [hc] at hc'
      cases hc'
      rintro ⟨_, h | h⟩ <;> subst h <;> rcases hq with h | h | h <;> exact absurd h (by decide)
  refine ⟨h.ok, h.dbase, h.sbase, h.wown, ?_, ?_, ?_, h.room⟩
  · exact (key db (blk_lt h.cells) ⟨_, .inr (.inr rfl), _, h.cells⟩).trans h.cells
  · refine Kd.R_mono (Kd.R_step (Kd.R_bound h.waits) (fun k hk hlt => ?_)) (fun _ hk => hk.1)
    obtain ⟨h1, _, _, q, hq, cells, hc⟩ := hk
    refine key k hlt ⟨q, ?_, cells, hc⟩
    have hq' : q ∈ [77, 5] := hq
    simp at hq'
    rcases hq' with h | h
    · exact .inl h
    · exact .inr (.inl h)
  · exact (key sb (blk_lt h.safe) ⟨_, .inr (.inl rfl), _, h.safe⟩).trans h.safe
set_option maxRecDepth 100000 in
theorem there_any {w : World} {base sb xb : Nat} {D : Dk} (n : Int) (h : RD w base sb xb D) :
    Calls Try.prog 52 #[.pointer (some ⟨xb, 0, none⟩), .int .i64 n] w fun e w' => e = .returned (.bool (decide (0 ≤ n ∧ n < D.safe.length))) ∧ w' = w := by
  obtain ⟨vs, vw, h⟩ := h
  obtain ⟨A, c, rfl⟩ := Kd.R_slice h.safe
  have c0 : w.cell? ⟨xb, 0, none⟩ = some (.slice A D.safe.length c) := cell_blk h.cells
  clear h
  by_cases h0 : 0 ≤ n
  · by_cases h1 : n < D.safe.length
    · rw [decide_eq_true (show 0 ≤ n ∧ n < D.safe.length from ⟨h0, h1⟩)]
      go_enter Try.func52, Try.ntmps52
      go_wp2_with fail
      go_ret
      exact ⟨rfl, rfl⟩
    · rw [decide_eq_false (show ¬ (0 ≤ n ∧ n < D.safe.length) from fun h => h1 h.2)]
      go_enter Try.func52, Try.ntmps52
      go_wp2_with fail
      go_ret
      exact ⟨rfl, rfl⟩
  · rw [decide_eq_false (show ¬ (0 ≤ n ∧ n < D.safe.length) from fun h => h0 h.1)]
    go_enter Try.func52, Try.ntmps52
    go_wp2_with fail
    go_ret
    exact ⟨rfl, rfl⟩
set_option maxRecDepth 100000 in
theorem xstop_any {w : World} {base sb xb : Nat} {D : Dk} (n : Int) (h : RD w base sb xb D) (hn : n ≤ 9223372036854775807) :
    Calls Try.prog 42 #[.pointer (some ⟨xb, 0, none⟩), .int .i64 n] w fun e w' => (e = .returned (.int .i64 (if n < 0 then 1 else 0)) ∧ RD w' base sb xb (if n < 0 then D else stopD D n) ∧ FX base xb w w') := by
  have HP := Aside0.mk h
  obtain ⟨vs, vw, h⟩ := h
  have c2 : w.cell? ⟨xb, 2, none⟩ = some (.int .i64 D.left) := cell_blk h.cells
  have f2 : w.frozen? ⟨xb, 2, none⟩ = false := frozen_blk h.cells
  have HX := Aside0.mk h
  clear h
  by_cases h0 : n < 0
  · rw [if_pos h0, if_pos h0]
    go_enter Try.func42, Try.ntmps42
    go_wp2_with fail
    go_ret
    exact ⟨rfl, HP.out, .refl _ _ _⟩
  · rw [if_neg h0, if_neg h0]
    go_enter Try.func42, Try.ntmps42
    go_wp2_with fail
    go_ret
    have ho := HX.out.ok
    exact ⟨rfl, ⟨vs, vw, HX.out.put 2 (.int .i64 n) (D' := stopD D n) ⟨ho.few, ho.len, ho.byte, ho.at_, by show -1 ≤ n ∧ n ≤ _; omega⟩ rfl rfl rfl⟩, .set _ _ _ _ rfl⟩
set_option maxRecDepth 100000 in
theorem xdeed_any {w : World} {base sb xb : Nat} {D : Dk} (h : RD w base sb xb D) :
    Calls Try.prog 54 #[.pointer (some ⟨xb, 0, none⟩)] w fun e w' => e = .returned (.bool (decide (D.left ≠ 0))) ∧ RD w' base sb xb (deedD D) ∧ FX base xb w w' := by
  obtain ⟨vs, vw, h⟩ := h
  have c2 : w.cell? ⟨xb, 2, none⟩ = some (.int .i64 D.left) := cell_blk h.cells
  have f2 : w.frozen? ⟨xb, 2, none⟩ = false := frozen_blk h.cells
  have c3 : w.cell? ⟨xb, 3, none⟩ = some (.bool D.off) := cell_blk h.cells
  have f3 : w.frozen? ⟨xb, 3, none⟩ = false := frozen_blk h.cells
  have HX := Aside0.mk h
  have ho := HX.out.ok
  have hl := ho.left
  have HOK := Aside0.mk ho
  clear h ho
  unfold deedD
  obtain ⟨L, hL⟩ : ∃ L, L = D.left := ⟨_, rfl⟩
  by_cases h0 : D.left = 0
  · rw [if_pos h0, decide_eq_false (fun h => h h0)]
    rw [h0] at c2
    clear hL
    go_enter Try.func54, Try.ntmps54
    go_wp2_with fail
    go_ret
    have ho := HOK.out
    exact ⟨rfl, ⟨vs, vw, HX.out.put 3 (.bool true) (D' := { D with off := true }) ⟨ho.few, ho.len, ho.byte, ho.at_, ho.left⟩ rfl rfl rfl⟩, .set _ _ _ _ rfl⟩
  · rw [if_neg h0, decide_eq_true h0]
    have ho := HOK.out
    by_cases h1 : 0 < D.left
    · have hm : max (D.left - 1) (-1) = D.left - 1 := by omega
      rw [hm]
      rw [← hL] at c2 hl h0 h1
      have HL := Aside0.mk hL
      clear hL hm ho
      go_enter Try.func54, Try.ntmps54
      go_wp2_with fail
      go_ret
      have ho := HOK.out
      have hL := HL.out
      exact ⟨rfl, ⟨vs, vw, HX.out.put 2 (.int .i64 (L - 1)) (D' := { D with left := D.left - 1 }) ⟨ho.few, ho.len, ho.byte, ho.at_, ⟨by show -1 ≤ D.left - 1; omega, by show D.left - 1 ≤ 9223372036854775807; omega⟩⟩ rfl rfl (by rw [hL]; rfl)⟩, .set _ _ _ _ rfl⟩
    · have hm : max (D.left - 1) (-1) = D.left := by omega
      have hl1 : D.left = -1 := by omega
      rw [hm]
      rw [hl1] at c2
      clear hL hm ho h0 hl h1
      go_enter Try.func54, Try.ntmps54
      go_wp2_with fail
      go_ret
      exact ⟨rfl, ⟨vs, vw, HX.out⟩, .refl _ _ _⟩
/-- A row of blocks, one of them put. -/
theorem put_row {w : World} {sb g n cap : Nat} {xs : List (List Int)} (h : Kd.R kB 30 w 0 (fun k => k ≠ sb) (.slice (some ⟨g, 0, none⟩) n cap) xs) (i : Nat) (hi : i < n) (v : Value) (bs : List Int) (hv : Kd.R (Kd.int .u8) 5 w 0 (fun k => k ≠ sb ∧ k ≠ g) v bs) :
    Kd.R kB 30 (w.setCell ⟨g, i, none⟩ v) 0 (fun k => k ≠ sb) (.slice (some ⟨g, 0, none⟩) n cap) (xs.set i bs) := by
  obtain ⟨c, hcl, hM, hcc, _⟩ := Kd.R_elem h [] (i : Int) (by omega) (by omega)
  have hs : kB.sz = 1 := rfl
  have := (Kd.R_seg h (i : Int) (by omega) (by omega) (seg := [v]) (j := 0) hcl hcc (by rw [hs]; simp) (x' := bs) (okp := fun k => k ≠ sb ∧ k ≠ g) ⟨v, by
    rw [hs] at hcl
    match c, hcl with
    | [u], _ => rfl, hv⟩ (fun k hk => hk)).1
  rw [hs, Int.toNat_natCast, Nat.mul_one, Nat.add_zero] at this
  exact this
end Disk
end Go.Proofs.Ytooemgcijbdilaa
namespace Go.Proofs.Ytooemgcijbdilaa
set_option linter.unusedVariables false
set_option linter.unusedSimpArgs false
open Go.RowKit Go.Proofs.YtooemgcijbdilaaW.PrintWords Go.Proofs.YtooemgcijbdilaaW.PrintLast Go.Proofs.YtooemgcijbdilaaW.PrintMore
namespace Disk
open Go.Disk PDiskDoes

/-- A safe block's cell. -/
theorem S_at {w : World} {sb : Nat} {vs : Value} {ss : List (List Int)} (h : Kd.R kB 30 w 0 (fun k => k ≠ sb) vs ss) (n : Nat) (hn : n < ss.length) :
    ∃ g cap A c, vs = .slice (some ⟨g, 0, none⟩) ss.length cap ∧ w.cell? ⟨g, n, none⟩ = some (.slice A ss[n].length c) ∧ Kd.R (Kd.int .u8) 5 w 0 (fun k => k ≠ sb ∧ k ≠ g) (.slice A ss[n].length c) ss[n] ∧ g ≠ sb ∧ g < w.heap.size ∧ ss.length ≤ cap ∧ w.frozen? ⟨g, n, none⟩ = false := by
  obtain ⟨g, cap, rfl, _⟩ := Kd.R_form h (by omega)
  obtain ⟨c, hcl, hM, hcc, hfr⟩ := Kd.R_elem h [] (n : Int) (by omega) (by omega)
  obtain ⟨v, rfl, hR⟩ := hM
  have e : ss.getD (n : Int).toNat [] = ss[n] := by rw [Int.toNat_natCast]; simp [List.getD_eq_getElem?_getD, hn]
  rw [e] at hR
  obtain ⟨A, c, rfl⟩ := Kd.R_slice hR
  have hs : kB.sz = 1 := rfl
  have h0 := hcc 0 _ rfl
  have h1 := hfr 0
  rw [hs, Int.toNat_natCast, Nat.mul_one, Nat.add_zero] at h0 h1
  exact ⟨g, cap, A, c, rfl, h0, hR, h.1 g (by simp [Value.ownBlock]), Kd.R_lt h g (by simp [Value.ownBlock]), (Kd.R_reads' h).2.1, h1⟩
theorem u8_at {w : World} {base : Nat} {ok : Nat → Prop} {A : Option Addr} {l c : Nat} {bs : List Int} (h : Kd.R (Kd.int .u8) 5 w base ok (.slice A l c) bs) (hl : bs.length = 256) : ∃ a, A = some a ∧ l = 256 ∧ 256 ≤ c ∧ Kd.C (Kd.int .u8) w (some a) 256 bs := by
  obtain ⟨h1, h2, h3⟩ := Kd.R_reads' h
  obtain ⟨a, rfl, _⟩ := Kd.at_int h3 0 (by omega) (by omega)
  refine ⟨a, rfl, by omega, by omega, ?_⟩
  rw [hl] at h3
  exact h3
set_option maxHeartbeats 8000000 in
set_option maxRecDepth 100000 in
theorem xnow_any {w : World} {base sb xb : Nat} {D : Dk} (h : RD w base sb xb D) (N : Int) (hN : 0 ≤ N ∧ N < D.safe.length) (hfew : D.waits.length ≤ 1000000) :
    Calls Try.prog 53 #[.pointer (some ⟨xb, 0, none⟩), .int .i64 N] w fun e W' => ∃ a c, e = .returned (.slice (some a) 256 c) ∧ 256 ≤ c ∧ Kd.C (Kd.int .u8) W' (some a) 256 (nowD D N) ∧ Below w.heap.size w W' := by
  obtain ⟨vs, vw, hx⟩ := h
  obtain ⟨AW, cW, rfl, hcW, _⟩ := Kd.R_reads hx.waits
  obtain ⟨n, rfl⟩ : ∃ n : Nat, N = n := ⟨N.toNat, by omega⟩
  have hn : n < D.safe.length := by omega
  have HX := Aside0.mk hx
  have c1 : w.cell? ⟨xb, 1, none⟩ = some (.slice AW D.waits.length cW) := cell_blk hx.cells
  clear hx hN
  go_enter Try.func53, Try.ntmps53
  go_wp2_with fail
  go_loopg [5] D.waits.length (fun g v5 wr => ∃ (i : Int), v5 = .int .i64 i ∧ -1 ≤ i ∧ i < D.waits.length ∧ Aside0 (i + 1 = g) ∧ Aside0 (∀ j (hj : j < D.waits.length), i < j → D.waits[j].1 ≠ n) ∧ Aside0 (Below w.heap.size w wr))
  case atStart => exact ⟨(D.waits.length : Int) - 1, by go_num, by omega, by omega, ⟨by omega⟩, ⟨fun j hj hlt => by omega⟩, ⟨Below.refl _ _⟩⟩
  case round =>
    obtain ⟨i, rfl, hi1, hi2, HI, HA, HB⟩ := hrel
    have HXR := Aside0.mk (HX.out.below HB.out)
    by_cases hi : 0 ≤ i
    · obtain ⟨k, rfl⟩ : ∃ k : Nat, i = k := ⟨i.toNat, by omega⟩
      have hk : k < D.waits.length := by omega
      obtain ⟨g, cap, vb, hvw, hw0, hw1, hwr, hgs, hgl, _⟩ := W_at HXR.out.waits k hk
      cases hvw
      have c1 : wr.cell? ⟨xb, 1, none⟩ = some (.slice (some ⟨g, 0, none⟩) D.waits.length cW) := cell_blk HXR.out.cells
      obtain ⟨M, hM⟩ : ∃ M, M = D.waits[k].1 := ⟨_, rfl⟩
      rw [← hM] at hw0
      have HM := Aside0.mk hM
      clear hM
      by_cases hMn : M = (n : Int)
      · subst hMn
        have HWR := Aside0.mk hwr
        clear hwr
        go_wp2_with fail
        go_ret
        have hlen := (HX.out.ok.at_ _ (List.getElem_mem hk)).2.2.1
        obtain ⟨A, c, rfl⟩ := Kd.R_slice HWR.out
        obtain ⟨a, rfl, e1, hc, hC⟩ := u8_at HWR.out hlen
        refine ⟨a, c, by rw [hlen]; rfl, hc, ?_, HB.out⟩
        have : nowD D (n : Int) = D.waits[k].2 := by
          unfold nowD
          rw [lastW_hit D.waits n k hk HM.out.symm (fun j hj hlt => HA.out j hj (by omega))]
          rfl
        rw [this]
        exact hC
      · clear hwr
        go_wp2_with fail
        go_roundg (gk - 1)
        case measure => have := HI.out; omega
        case rel => exact ⟨(k : Int) - 1, by go_num, by omega, by omega, ⟨by have := HI.out; omega⟩, ⟨fun j hj hlt => by
          by_cases hjk : j = k
          · subst hjk; rw [← HM.out]; exact hMn
          · exact HA.out j hj (by omega)⟩, HB⟩
    · have hi0 : i = -1 := by omega
      subst hi0
      obtain ⟨g, cap, A, c, rfl, hcell, hR, hgs, hgl, hcap, _⟩ := S_at HXR.out.safe n hn
      have c0 : wr.cell? ⟨xb, 0, none⟩ = some (.slice (some ⟨g, 0, none⟩) D.safe.length cap) := cell_blk HXR.out.cells
      have hlen := HX.out.ok.len _ (List.getElem_mem hn)
      obtain ⟨a, rfl, e1, hc, hC⟩ := u8_at hR hlen
      rw [hlen] at hcell
      have HC := Aside0.mk hC
      clear hC hR hlen e1
      go_wp2_with fail
      go_ret
      refine ⟨a, c, rfl, hc, ?_, HB.out⟩
      have : nowD D (n : Int) = D.safe[n] := by
        unfold nowD
        rw [lastW_none D.waits n (fun j hj => HA.out j hj (by omega))]
        simp [hn]
      rw [this]
      exact HC.out
theorem ready_cases (D : Dk) (N : Int) : (D.off = true ∧ ready D N = 9) ∨ (D.off = false ∧ ¬ (0 ≤ N ∧ N < D.safe.length) ∧ ready D N = 10) ∨ (D.off = false ∧ (0 ≤ N ∧ N < D.safe.length) ∧ ready D N = 0) := by
  unfold ready
  cases hoff : D.off with
  | true => exact .inl ⟨rfl, by simp⟩
  | false =>
    by_cases hN : 0 ≤ N ∧ N < D.safe.length
    · exact .inr (.inr ⟨rfl, hN, by rw [if_neg (by simp), if_neg (by omega)]⟩)
    · exact .inr (.inl ⟨rfl, hN, by rw [if_neg (by simp), if_pos (by omega)]⟩)
theorem ready_in {D : Dk} {N : Int} (h : ready D N = 0) : D.off = false ∧ 0 ≤ N ∧ N < D.safe.length := by
  rcases ready_cases D N with ⟨_, h2⟩ | ⟨_, _, h2⟩ | ⟨h1, h2, _⟩
  · omega
  · omega
  · exact ⟨h1, h2⟩
set_option maxHeartbeats 8000000 in
set_option maxRecDepth 100000 in
theorem xread_no {w : World} {base sb xb : Nat} {D : Dk} (h : RD w base sb xb D) (N : Int) (hr : ready D N ≠ 0) :
    Calls Try.prog 38 #[.pointer (some ⟨xb, 0, none⟩), .int .i64 N] w fun e w' => e = .returned (.tuple #[.slice none 0 0, .int .i64 (ready D N)]) ∧ w' = w := by
  have HP := Aside0.mk h
  obtain ⟨vs, vw, hx⟩ := h
  have c3 : w.cell? ⟨xb, 3, none⟩ = some (.bool D.off) := cell_blk hx.cells
  clear hx
  rcases ready_cases D N with ⟨h1, h2⟩ | ⟨h1, h2, h3⟩ | ⟨h1, h2, h3⟩
  · rw [h1] at c3
    rw [h2]
    clear h1 h2 hr
    go_enter Try.func38, Try.ntmps38
    go_wp2_with fail
    go_ret2
    exact ⟨rfl, rfl⟩
  · rw [h1] at c3
    rw [h3]
    have ht := there_any N HP.out
    rw [decide_eq_false h2] at ht
    clear h1 h2 h3 hr
    go_enter Try.func38, Try.ntmps38
    go_wp2_with fail
    refine ht.mono ?_
    rintro e w1 ⟨rfl, rfl⟩
    clear ht
    go_wp2_with fail
    go_ret2
    exact ⟨rfl, rfl⟩
  · exact absurd h3 hr
set_option maxHeartbeats 8000000 in
set_option maxRecDepth 100000 in
theorem xread_yes {w : World} {base sb xb : Nat} {D : Dk} (h : RD w base sb xb D) (N : Int) (hr : ready D N = 0) (hfew : D.waits.length ≤ 1000000) :
    Calls Try.prog 38 #[.pointer (some ⟨xb, 0, none⟩), .int .i64 N] w fun e w' => ∃ v, e = .returned (.tuple #[v, .int .i64 0]) ∧ Kd.R (Kd.int .u8) 5 w' w.heap.size (fun _ => True) v (nowD D N) ∧ RD w' base sb xb (readD D) ∧ FX base xb w w' := by
  have HP := Aside0.mk h
  obtain ⟨vs, vw, hx⟩ := h
  have HX := Aside0.mk hx
  obtain ⟨hoff, hN⟩ := ready_in hr
  have c3 : w.cell? ⟨xb, 3, none⟩ = some (.bool false) := by rw [← hoff]; exact cell_blk hx.cells
  clear hx hoff hr
  have ht := there_any N HP.out
  rw [decide_eq_true hN] at ht
  have HNL := Aside0.mk (now_len HX.out.ok N hN)
  have c4 : w.cell? ⟨xb, 4, none⟩ = some (.int .i64 D.reads) := cell_blk HX.out.cells
  have f4 : w.frozen? ⟨xb, 4, none⟩ = false := frozen_blk HX.out.cells
  have HNN := Aside0.mk hN
  clear hN
  go_enter Try.func38, Try.ntmps38
  go_wp2_with fail
  refine ht.mono ?_
  rintro e w1 ⟨rfl, rfl⟩
  clear ht
  go_wp2_with fail
  obtain ⟨w2, hw2⟩ : ∃ w2, w2 = w1.setCell ⟨xb, 4, none⟩ (.int .i64 (wrap64 (D.reads + 1))) := ⟨_, rfl⟩
  rw [← hw2]
  have HP2 := Aside0.mk (show RD w2 base sb xb (readD D) from ⟨vs, vw, by rw [hw2]; exact HX.out.put 4 _ (D' := readD D) (cnt_ok HX.out.ok rfl rfl rfl) rfl rfl rfl⟩)
  have HF2 := Aside0.mk (show FX base xb w1 w2 by rw [hw2]; exact .set _ _ _ _ rfl)
  have hsz : w2.heap.size = w1.heap.size := by rw [hw2]; simp [World.setCell]
  clear hw2 c4 f4 c3
  obtain ⟨w3, hw3⟩ : ∃ w3, w3 = w2.alloc (.cells #[] 5) := ⟨_, rfl⟩
  have HB3 := Aside0.mk (show Below w2.heap.size w2 w3 by rw [hw3]; exact (Below.refl _ _).alloc (Nat.le_refl _) _)
  have HO3 := Aside0.mk (show Kd.R (Kd.int .u8) 5 w3 w1.heap.size (fun _ => True) (.slice (some ⟨w2.heap.size, 0, none⟩) 0 0) [] by rw [hw3]; exact ⟨fun _ _ => trivial, OwnRow.lit w2 w1.heap.size (Reps.none _ _) HF2.out.size (by simp)⟩)
  try rw [← hw3]
  clear hw3
  refine (xnow_any (HP2.out.below HB3.out) N HNN.out hfew).mono ?_
  rintro e w4 ⟨a, c, rfl, hc, hC, b⟩
  have HC4 := Aside0.mk (show Kd.C (Kd.int .u8) w4 (some a) 256 (nowD D N) from hC)
  have HO4 := Aside0.mk (Kd.R_below HO3.out b)
  have HB4 := Aside0.mk (HB3.out.trans (b.mono HB3.out.size))
  clear hC b
  go_wp2_with ((with_reducible refine gate_builtin (b := .append) (xs := #[.tmp 25, .tmp 28]) rfl ?_); at_builtin; refine Hid.out ?_)
  refine Lib.hid ?_
  have hs2 := HF2.out.size
  rw [hsz] at HO4
  refine Kd.R_append_rows (Kd.int .u8) (Rr := (Kd.int .u8).K w4) (w0 := w4) w1.heap.size rfl (.tmp 25) (.tmp 28) 30 5 (.int .u8 0) 1 rfl Try.underlying30 infoU8 rfl (by decide) (by omega) (.slice (some ⟨w1.heap.size, 0, none⟩) 0 0) [] (nowD D N) (some a) 256 c (fun _ => True) (fun _ => False) rfl rfl HO4.out HC4.out (fun x cs h => h) (fun _ hk => hk.elim) (fun _ _ => trivial) (Below.refl _ _) (Nat.le_trans hs2 HB4.out.size) (by simp) ?_
  intro v5 w5 ho _ hg _
  have HO5 := Aside0.mk ho
  have HB5 := Aside0.mk (show Below w2.heap.size w2 w5 from HB4.out.trans ⟨hg.os, hg.tape, hg.output, hg.size, fun k hk => hg.block k (Nat.lt_of_lt_of_le hk HB4.out.size) (by simp [Value.ownBlock]; omega)⟩)
  clear ho hg
  go_wp2_with fail
  go_ret2
  exact ⟨_, rfl, by simpa using HO5.out, HP2.out.below HB5.out, HF2.out.trans (.of_below HB5.out)⟩

end Disk
end Go.Proofs.Ytooemgcijbdilaa
namespace Go.Proofs.Ytooemgcijbdilaa
set_option linter.unusedVariables false
set_option linter.unusedSimpArgs false
open Go.RowKit Go.Proofs.YtooemgcijbdilaaW.PrintWords Go.Proofs.YtooemgcijbdilaaW.PrintLast Go.Proofs.YtooemgcijbdilaaW.PrintMore
namespace Disk
open Go.Disk PDiskDoes

theorem infoX : (Try.prog.info? 93).map (fun i => (i.zero, i.size, i.bytes)) = some (some (.agg #[.int .i64 0, .slice none 0 0]), 2, 32) := by kernel_rfl
set_option maxHeartbeats 8000000 in
set_option maxRecDepth 100000 in
theorem xwrite_no {w : World} {base sb xb : Nat} {D : Dk} (h : RD w base sb xb D) (N : Int) (hr : ready D N ≠ 0) (A : Option Addr) (l c : Nat) :
    Calls Try.prog 40 #[.pointer (some ⟨xb, 0, none⟩), .int .i64 N, .slice A l c] w fun e w' => e = .returned (.int .i64 (ready D N)) ∧ w' = w := by
  have HP := Aside0.mk h
  obtain ⟨vs, vw, hx⟩ := h
  have c3 : w.cell? ⟨xb, 3, none⟩ = some (.bool D.off) := cell_blk hx.cells
  clear hx
  rcases ready_cases D N with ⟨h1, h2⟩ | ⟨h1, h2, h3⟩ | ⟨h1, h2, h3⟩
  · rw [h1] at c3
    rw [h2]
    clear h1 h2 hr
    go_enter Try.func40, Try.ntmps40
    go_wp2_with fail
    go_ret
    exact ⟨rfl, rfl⟩
  · rw [h1] at c3
    rw [h3]
    have ht := there_any N HP.out
    rw [decide_eq_false h2] at ht
    clear h1 h2 h3 hr
    go_enter Try.func40, Try.ntmps40
    go_wp2_with fail
    refine ht.mono ?_
    rintro e w1 ⟨rfl, rfl⟩
    clear ht
    go_wp2_with fail
    go_ret
    exact ⟨rfl, rfl⟩
  · exact absurd h3 hr
set_option maxHeartbeats 8000000 in
set_option maxRecDepth 100000 in
theorem xwrite_size {w : World} {base sb xb : Nat} {D : Dk} (h : RD w base sb xb D) (N : Int) (hr : ready D N = 0) (A : Option Addr) (l c : Nat) (hl : l ≠ 256) :
    Calls Try.prog 40 #[.pointer (some ⟨xb, 0, none⟩), .int .i64 N, .slice A l c] w fun e w' => e = .returned (.int .i64 11) ∧ w' = w := by
  have HP := Aside0.mk h
  obtain ⟨vs, vw, hx⟩ := h
  obtain ⟨hoff, hN⟩ := ready_in hr
  have c3 : w.cell? ⟨xb, 3, none⟩ = some (.bool false) := by rw [← hoff]; exact cell_blk hx.cells
  have hb : ((l : Int) != 256) = true := by simp; omega
  have ht := there_any N HP.out
  rw [decide_eq_true hN] at ht
  clear hx hoff hr hN
  go_enter Try.func40, Try.ntmps40
  go_wp2_with fail
  refine ht.mono ?_
  rintro e w1 ⟨rfl, rfl⟩
  clear ht
  go_wp2_with fail
  go_ret
  exact ⟨rfl, rfl⟩
set_option maxHeartbeats 8000000 in
set_option maxRecDepth 100000 in
theorem xwrite_yes {w : World} {base sb xb : Nat} {D : Dk} (h : RD w base sb xb D) (N : Int) (hr : ready D N = 0) (a : Addr) (c : Nat) (bs : List Int) (hl : bs.length = 256) (hby : ∀ x ∈ bs, 0 ≤ x ∧ x ≤ 255) (hC : ∀ x, Below w.heap.size w x → Kd.C (Kd.int .u8) x (some a) bs.length bs) (hfew : D.waits.length ≤ 1000000) :
    Calls Try.prog 40 #[.pointer (some ⟨xb, 0, none⟩), .int .i64 N, .slice (some a) bs.length c] w fun e w' => e = .returned (.int .i64 (writeD D N bs).2) ∧ RD w' base sb xb (writeD D N bs).1 ∧ FX base xb w w' := by
  obtain ⟨hoff, hN⟩ := ready_in hr
  have HP := Aside0.mk h
  have HR := Aside0.mk hr
  have HC := Aside0.mk hC
  have HBY := Aside0.mk hby
  obtain ⟨vs, vw, hx⟩ := h
  obtain ⟨AW, cW, rfl⟩ := Kd.R_slice hx.waits
  have HX := Aside0.mk hx
  have hdl : xb < w.heap.size := blk_lt hx.cells
  have c3 : w.cell? ⟨xb, 3, none⟩ = some (.bool false) := by rw [← hoff]; exact cell_blk hx.cells
  have ht := there_any N HP.out
  rw [decide_eq_true hN] at ht
  clear hx hr hC hby hoff
  rw [hl]
  go_enter Try.func40, Try.ntmps40
  go_wp2_with fail
  refine ht.mono ?_
  rintro e w1 ⟨rfl, rfl⟩
  clear ht c3
  go_wp2_with fail
  have hm1 : ∀ m : Go.Reg.In (Below w1.heap.size w1), m.w.cell? ⟨xb, 1, none⟩ = some (.slice AW D.waits.length cW) := fun m => by rw [m.h.cell hdl]; exact cell_blk HX.out.cells
  refine Go.Reg.region (Below w1.heap.size w1) [.p, .s, .s, .s, .s, .s, .w, .s, .w, .s, .w, .x, .p, .p, .x] (by kernel_rfl) (by kernel_rfl) (below_drew1 (Below.refl _ _)) (fun ne => ?_)
  refine Go.Reg.lex_qp 1 _ _ _ _ _ (by rfl) ?_; simp only [List.take_succ_cons, List.take_zero, List.drop_succ_cons, List.drop_zero]; (repeat (go_big_quiet_step (rfl))); refine wpQuiet_nil ?_
  refine Go.Reg.lex_q 5 _ _ _ _ (by rfl) ?_; simp only [List.take_succ_cons, List.take_zero, List.drop_succ_cons, List.drop_zero]; (repeat (go_big_quiet_step (rfl))); refine wpQuiet_nil ?_
  refine Go.Reg.step_w (fun K hK => ?_)
  go_wp2_with fail
  obtain ⟨w2, hw2⟩ : ∃ w2, w2 = (w1.alloc (.cells #[] 5)).drew := ⟨_, rfl⟩
  have HB2 := Aside0.mk (show Below w1.heap.size w1 w2 by rw [hw2]; exact below_drew1 ((Below.refl _ _).alloc (Nat.le_refl _) _))
  have HO2 := Aside0.mk (show Kd.R (Kd.int .u8) 5 w2 w1.heap.size (fun _ => True) (.slice (some ⟨w1.heap.size, 0, none⟩) 0 0) [] by rw [hw2]; exact Kd.R_drew ⟨fun _ _ => trivial, OwnRow.lit w1 w1.heap.size (Reps.none _ _) (Nat.le_refl _) (by simp)⟩)
  rw [← hw2]
  clear hw2
  refine hK.out _ _ HB2.out ?_
  clear hK K
  try simp only [Act.put, List.setIfInBounds_toArray, List.set_cons_succ, List.set_cons_zero]
  refine Go.Reg.lex_q 1 _ _ _ _ (by rfl) ?_; simp only [List.take_succ_cons, List.take_zero, List.drop_succ_cons, List.drop_zero]; (repeat (go_big_quiet_step (rfl))); refine wpQuiet_nil ?_
  refine Go.Reg.step_w (fun K hK => ?_)
  refine Kd.R_append_rows (Kd.int .u8) (Rr := (Kd.int .u8).K w2) (w0 := w1) w1.heap.size rfl (.tmp 27) (.tmp 28) 30 5 (.int .u8 0) 1 rfl Try.underlying30 infoU8 rfl (by decide) (by omega) (.slice (some ⟨w1.heap.size, 0, none⟩) 0 0) [] bs (some a) 256 c (fun _ => True) (fun _ => False) rfl rfl HO2.out (by have := HC.out _ HB2.out; rw [hl] at this; exact this) (fun x cs h => h) (fun _ hk => hk.elim) (fun _ _ => trivial) HB2.out HB2.out.size (by simp) ?_
  intro vb w3 hrb hb3 _ _
  rw [List.nil_append] at hrb
  obtain ⟨AB, cB, rfl⟩ := Kd.R_slice hrb
  have HRB := Aside0.mk hrb
  have HB3 := Aside0.mk hb3
  rw [hl]
  clear hrb hb3
  refine hK.out _ _ HB3.out ?_
  clear hK K
  try simp only [Act.put, List.setIfInBounds_toArray, List.set_cons_succ, List.set_cons_zero]
  refine Go.Reg.lex_q 1 _ _ _ _ (by rfl) ?_; simp only [List.take_succ_cons, List.take_zero, List.drop_succ_cons, List.drop_zero]; (repeat (go_big_quiet_step (rfl))); refine wpQuiet_nil ?_
  refine Go.Reg.step_w (fun K hK => ?_)
  go_wp2_with fail
  refine hK.out _ _ (HB3.out.alloc HB3.out.size _) ?_
  clear hK K
  refine Go.Reg.step_x (by rfl) (fun K hK => ?_)
  have hs3 : w1.heap.size ≤ w3.heap.size := HB3.out.size
  have hsl : sb < w1.heap.size := HX.out.slt
  have hdb := HX.out.xbase
  have HOW := Aside0.mk (Kd.R_lt HX.out.waits)
  have HX3 := Aside0.mk (HX.out.below HB3.out)
  refine Kd.R_append kW (w0 := w3) (W := w3) 0 rfl (.tmp 25) (.tmp 31) 53 93 (.agg #[.int .i64 0, .slice none 0 0]) 32 rfl Try.underlying53 infoX rfl (by decide) (by omega) (.slice AW D.waits.length cW) D.waits (N, bs) [.int .i64 N, .slice AB 256 cB] (fun k => k ≠ sb) (fun k => w1.heap.size ≤ k) rfl rfl ?aP ?aK ?aF ?aO (Below.refl _ _) ?aB ?aL ?_
  case aP => exact ⟨[.int .i64 N], [.slice AB 256 cB], rfl, rfl, _, rfl, by
    have h1 := HRB.out
    rw [hl] at h1
    exact Kd.R_mono (Kd.R_lower (Kd.R_bound h1) (Nat.zero_le _)) (fun k hk => hk.2.1)⟩
  case aK => exact fun k hk => ⟨by omega, fun e => by have := HOW.out k e.symm; omega⟩
  case aF => exact fun k hk => by omega
  case aO => exact HX3.out.waits
  case aB => omega
  case aL => omega
  intro v4 w4 ho4 _ hg4 hat4
  have HWO := Aside0.mk (show ∀ k, v4.ownBlock = some k → base ≤ k from fun k hk => by
    rcases hat4 with h | ⟨b, h1, h2⟩
    · exact HX.out.wown k (h ▸ hk)
    · rw [h1] at hk; cases hk; have := HX.out.xbase; omega)
  obtain ⟨A4, c4, rfl⟩ := Kd.R_slice ho4
  have hlen1 : (D.waits ++ [(N, bs)]).length = D.waits.length + 1 := by simp
  rw [hlen1] at ho4 HWO
  rw [hlen1]
  clear hlen1
  have HO4 := Aside0.mk ho4
  have hned : some xb ≠ (Value.slice AW D.waits.length cW).ownBlock := Kd.R_ne HX3.out.waits HX3.out.cells (by decide)
  have k4 := (hg4.block xb (by omega) hned).trans HX3.out.cells
  have HK4 := Aside0.mk k4
  have HSF := Aside0.mk (show Kd.R kB 30 w4 0 (fun k => k ≠ sb) vs D.safe from by
    refine Kd.R_mono (Kd.R_step (Kd.R_bound HX3.out.safe) (fun k hk hlt => hg4.block k hlt (fun e => ?_))) (fun _ hk => hk.1)
    obtain ⟨_, _, _, q, hq, cells, hc⟩ := hk
    obtain ⟨cells', hcells⟩ := own_typed (Kd.R_own HX3.out.waits).choose_spec k e.symm
    rw [hc] at hcells
    cases hcells
    exact absurd hq (by decide))
  have d1 : w4.cell? ⟨xb, 1, none⟩ = some (.slice AW D.waits.length cW) := cell_blk k4
  have g1 : w4.frozen? ⟨xb, 1, none⟩ = false := frozen_blk k4
  have HF4 := Aside0.mk (show FX base xb w1 w4 from (Fr.of_below HB3.out).trans ⟨hg4.os, hg4.tape, hg4.output, hg4.size, fun k hk hne ht => hg4.block k hk (fun e => by
    obtain ⟨cells, hcells⟩ := own_typed (Kd.R_own HX3.out.waits).choose_spec k e.symm
    exact ht _ _ _ hcells ⟨HX3.out.wown k e.symm, .inr rfl⟩)⟩)
  clear ho4 hg4 hat4 k4 hned
  refine hK.out _ _ ?_
  clear hK K
  try simp only [Act.put, List.setIfInBounds_toArray, List.set_cons_succ, List.set_cons_zero]
  refine Go.Reg.lex_qp 2 _ _ _ _ _ (by rfl) ?_; simp only [List.take_succ_cons, List.take_zero, List.drop_succ_cons, List.drop_zero]; (repeat (go_big_quiet_step (rfl))); refine wpQuiet_nil ?_
  refine Go.Reg.step_x (by rfl) (fun K hK => ?_)
  go_wp2_with fail
  refine hK.out _ _ ?_
  clear hK K
  refine Go.Reg.lex_nil ?_
  have hset := blk_set HK4.out 1 (.slice A4 (D.waits.length + 1) c4)
  obtain ⟨w5, hw5⟩ : ∃ w5, w5 = w4.setCell ⟨xb, 1, none⟩ (.slice A4 (D.waits.length + 1) c4) := ⟨_, rfl⟩
  have hp5 : RD w5 base sb xb (waitD D N bs) := by
    refine ⟨vs, .slice A4 (D.waits.length + 1) c4, wait_ok HX.out.ok N bs hN hl HBY.out, HX.out.xbase, ?_, HX.out.sown, HWO.out, ?_, ?_, ?_⟩
    · rw [hw5]; have := HF4.out.size; simp [World.setCell]; omega
    · rw [hw5, hset]; rfl
    · rw [hw5]; exact Kd.R_set HSF.out HK4.out (by decide) 1 _
    · rw [hw5]; exact Kd.R_set HO4.out HK4.out (by decide) 1 _
  have hf5 : FX base xb w1 w5 := by rw [hw5]; exact HF4.out.trans (.set _ _ _ _ rfl)
  try rw [← hw5]
  have HP5 := Aside0.mk hp5
  have HF5 := Aside0.mk hf5
  clear hw5 hset hp5 hf5 d1 g1
  go_wp2_with fail
  refine (xdeed_any HP5.out).mono ?_
  rintro e w6 ⟨rfl, hp6, hf6⟩
  have HP6 := Aside0.mk hp6
  have HF6 := Aside0.mk (HF5.out.trans hf6)
  clear hp6 hf6
  have hwd : writeD D N bs = if D.left = 0 then (deedD (waitD D N bs), 9) else ({ deedD (waitD D N bs) with writes := wrap64 (D.writes + 1) }, 0) := by
    unfold writeD
    rw [HR.out, if_neg (by simp), if_neg (by rw [hl]; simp)]
  have HWD := Aside0.mk hwd
  clear hwd
  by_cases hz : D.left = 0
  · rw [show (waitD D N bs).left = D.left from rfl, decide_eq_false (fun h => h hz)]
    go_wp2_with fail
    go_ret
    rw [HWD.out, if_pos hz]
    exact ⟨rfl, HP6.out, HF6.out⟩
  · rw [show (waitD D N bs).left = D.left from rfl, decide_eq_true hz]
    obtain ⟨vs6, vw6, hx6⟩ := HP6.out
    have hwr : (deedD (waitD D N bs)).writes = D.writes := by unfold deedD; rw [show (waitD D N bs).left = D.left from rfl, if_neg hz]; rfl
    have c5 : w6.cell? ⟨xb, 5, none⟩ = some (.int .i64 D.writes) := by rw [← hwr]; exact cell_blk hx6.cells
    have f5 : w6.frozen? ⟨xb, 5, none⟩ = false := frozen_blk hx6.cells
    have HX6 := Aside0.mk hx6
    have HWR := Aside0.mk hwr
    clear hx6 hwr
    go_wp2_with fail
    go_ret
    rw [HWD.out, if_neg hz]
    exact ⟨rfl, ⟨vs6, vw6, HX6.out.put 5 _ (D' := { deedD (waitD D N bs) with writes := wrap64 (D.writes + 1) }) (cnt_ok HX6.out.ok rfl rfl rfl) rfl rfl rfl⟩, HF6.out.trans (.set _ _ _ _ rfl)⟩
end Disk
end Go.Proofs.Ytooemgcijbdilaa
namespace Go.Proofs.Ytooemgcijbdilaa
set_option linter.unusedVariables false
set_option linter.unusedSimpArgs false
open Go.RowKit Go.Proofs.YtooemgcijbdilaaW.PrintWords Go.Proofs.YtooemgcijbdilaaW.PrintLast Go.Proofs.YtooemgcijbdilaaW.PrintMore
namespace Disk
open Go.Disk PDiskDoes

theorem sec_all {l : List Int} (h : l.length = 256) : l = ((sec 0 l ++ sec 1 l) ++ sec 2 l) ++ sec 3 l := by
  have e : ∀ n, l.take (n + 64) = l.take n ++ (l.drop n).take 64 := fun n => List.take_add
  have h4 : l.take 256 = l := by rw [← h]; exact List.take_length
  have h1 := e 0
  have h2 := e 64
  have h3 := e 128
  have h5 := e 192
  simp only [List.take_zero, List.nil_append, Nat.zero_add, Nat.reduceAdd] at h1 h2 h3 h5
  unfold sec
  simp only [Nat.mul_zero, Nat.mul_one, Nat.reduceMul]
  rw [← h1, ← h2, ← h3, ← h5, h4]
theorem on_eq (m : Int) (i : Nat) (hi : i ≤ 4) : (Go.bits .and .i64 (shr .i64 m (i : Int)) 1 = 1) ↔ onM m i = true := by
  have h : shr .i64 m (i : Int) = m / 2 ^ i := by
    unfold shr
    rw [Int.toNat_natCast, Nat.min_eq_left (by show i ≤ 64; omega)]
  rw [h]
  unfold onM
  exact beq_iff_eq.symm
theorem torn_step (k : Nat) (was bs : List Int) (m : Int) (x : List Int) (i : Nat) (hi : i < 4) (hw : was.length = 256) (hb : bs.length = 256) (hx : x.length ≤ 256) :
    chantryref06_torn.l0 (k + 1) was bs m x (i : Int) = chantryref06_torn.l0 k was bs m (x ++ if onM m i = true then sec i bs else sec i was) ((i + 1 : Nat) : Int) := by
  simp only [chantryref06_torn.l0]
  have w1 : wrap64 (64 * (i : Int)) = 64 * (i : Int) := wrap_id _ (by omega) (by omega)
  have w2 : wrap64 (64 * (i : Int) + 64) = 64 * (i : Int) + 64 := wrap_id _ (by omega) (by omega)
  have w3 : wrap64 ((i : Int) + 1) = ((i + 1 : Nat) : Int) := (wrap_id _ (by omega) (by omega)).trans (by omega)
  have hs : ∀ l : List Int, (l.take (64 * (i : Int) + 64).toNat).drop (64 * (i : Int)).toNat = sec i l := fun l => by
    rw [show (64 * (i : Int) + 64).toNat = 64 * i + 64 by omega, show (64 * (i : Int)).toNat = 64 * i by omega, List.drop_take, show 64 * i + 64 - 64 * i = 64 by omega]
    rfl
  rw [w1, w2, w3, hs, hs, sec_len i hi bs hb, sec_len i hi was hw]
  rw [if_pos (by omega), if_pos (by omega)]
  by_cases ho : onM m i = true
  · rw [if_pos ((on_eq m i (by omega)).2 ho), if_pos (by omega), if_pos (by omega), if_pos (by omega), if_pos (by omega), if_pos ho]
  · rw [if_neg (fun h => ho ((on_eq m i (by omega)).1 h)), if_pos (by omega), if_pos (by omega), if_pos (by omega), if_pos (by omega), if_neg ho]
theorem torn_plain (was bs : List Int) (m : Int) (hw : was.length = 256) (hb : bs.length = 256) : chantryref06_torn.f 5 was bs m = some (tornTo (onM m) was bs 4) := by
  have hs : ∀ k, k < 4 → (if onM m k = true then sec k bs else sec k was) = sec k (tornTo (onM m) was bs 4) := fun k hk => (sec_torn (onM m) was bs hw hb k hk).symm
  have hl := tornTo_len (onM m) was bs hw hb 4 (Nat.le_refl _)
  have l0 := sec_len 0 (by omega) _ hl
  have l1 := sec_len 1 (by omega) _ hl
  have l2 := sec_len 2 (by omega) _ hl
  have l3 := sec_len 3 (by omega) _ hl
  unfold chantryref06_torn.f
  have s0 := torn_step 4 was bs m [] 0 (by omega) hw hb (by simp)
  rw [hs 0 (by omega), List.nil_append] at s0
  have s1 := torn_step 3 was bs m (sec 0 (tornTo (onM m) was bs 4)) 1 (by omega) hw hb (by omega)
  rw [hs 1 (by omega)] at s1
  have s2 := torn_step 2 was bs m (sec 0 (tornTo (onM m) was bs 4) ++ sec 1 (tornTo (onM m) was bs 4)) 2 (by omega) hw hb (by rw [List.length_append]; omega)
  rw [hs 2 (by omega)] at s2
  have s3 := torn_step 1 was bs m ((sec 0 (tornTo (onM m) was bs 4) ++ sec 1 (tornTo (onM m) was bs 4)) ++ sec 2 (tornTo (onM m) was bs 4)) 3 (by omega) hw hb (by rw [List.length_append, List.length_append]; omega)
  rw [hs 3 (by omega), ← sec_all hl] at s3
  refine (s0.trans (s1.trans (s2.trans s3))).trans ?_
  simp only [chantryref06_torn.l0]
  rw [if_neg (by decide)]
theorem Fr.set_ty {bs : Nat → Prop} {ts : Nat → Nat → Prop} {w : World} {b t : Nat} {cs : Array Value} {fz : Nat × Nat} (hb : w.heap[b]? = some (.cells cs t fz)) (ht : ts b t) (k : Nat) (v : Value) : Fr bs ts w (w.setCell ⟨b, k, none⟩ v) :=
  ⟨rfl, rfl, rfl, by simp [World.setCell], fun i _ _ h2 => by
    by_cases hi : i = b
    · subst hi; exact absurd ht (h2 _ _ _ hb)
    · exact Below.heap_setCell _ _ _ _ hi⟩
/-- A safe block put. -/
theorem put_safe {w : World} {base sb xb g cap : Nat} {D : Dk} {vw : Value} (h : RDx w base sb xb D (.slice (some ⟨g, 0, none⟩) D.safe.length cap) vw) (n : Nat) (hn : n < D.safe.length) (v : Value) (bs : List Int) (hl : bs.length = 256) (hby : ∀ x ∈ bs, 0 ≤ x ∧ x ≤ 255) (hv : Kd.R (Kd.int .u8) 5 w 0 (fun k => k ≠ sb) v bs) :
    RDx (w.setCell ⟨g, n, none⟩ v) base sb xb { D with safe := D.safe.set n bs } (.slice (some ⟨g, 0, none⟩) D.safe.length cap) vw ∧ FX base xb w (w.setCell ⟨g, n, none⟩ v) := by
  obtain ⟨cells, hg⟩ := own_typed (Kd.R_own h.safe).choose_spec g (by simp [Value.ownBlock])
  have hne : xb ≠ g := by
    rintro rfl
    have := h.cells.symm.trans hg
    simp at this
  refine ⟨⟨ok_set h.ok n bs hl hby, h.xbase, by simpa [World.setCell] using h.slt, h.sown, h.wown, ?_, ?_, ?_⟩, Fr.set_ty hg ⟨h.sown g (by simp [Value.ownBlock]), .inl rfl⟩ n v⟩
  · rw [Below.heap_setCell _ _ _ _ hne]
    exact h.cells
  · exact put_row h.safe n hn v bs (Kd.R_types hv hg (by decide))
  · exact Kd.R_set h.waits hg (by decide) n v
set_option maxHeartbeats 8000000 in
set_option maxRecDepth 100000 in
theorem xflush_off {w : World} {base sb xb : Nat} {D : Dk} (h : RD w base sb xb D) (hr : D.off = true) :
    Calls Try.prog 41 #[.pointer (some ⟨xb, 0, none⟩)] w fun e w' => e = .returned (.int .i64 9) ∧ w' = w := by
  obtain ⟨vs, vw, hx⟩ := h
  have c3 : w.cell? ⟨xb, 3, none⟩ = some (.bool true) := by rw [← hr]; exact cell_blk hx.cells
  clear hx hr
  go_enter Try.func41, Try.ntmps41
  go_wp2_with fail
  go_ret
  exact ⟨rfl, rfl⟩
set_option maxHeartbeats 8000000 in
set_option maxRecDepth 100000 in
theorem xflush_stop {w : World} {base sb xb : Nat} {D : Dk} (h : RD w base sb xb D) (hr : D.off = false) (hl : D.left = 0) :
    Calls Try.prog 41 #[.pointer (some ⟨xb, 0, none⟩)] w fun e w' => e = .returned (.int .i64 9) ∧ RD w' base sb xb (deedD D) ∧ FX base xb w w' := by
  have HP := Aside0.mk h
  obtain ⟨vs, vw, hx⟩ := h
  have c3 : w.cell? ⟨xb, 3, none⟩ = some (.bool false) := by rw [← hr]; exact cell_blk hx.cells
  have hd := xdeed_any HP.out
  rw [decide_eq_false (fun h => h hl)] at hd
  clear hx hr hl
  go_enter Try.func41, Try.ntmps41
  go_wp2_with fail
  refine hd.mono ?_
  rintro e w1 ⟨rfl, p, f⟩
  have HP1 := Aside0.mk p
  have HF1 := Aside0.mk f
  clear p f hd c3
  go_wp2_with fail
  go_ret
  exact ⟨rfl, HP1.out, HF1.out⟩
set_option maxHeartbeats 8000000 in
set_option maxRecDepth 100000 in
theorem xflush_yes {w : World} {base sb xb : Nat} {D : Dk} (h : RD w base sb xb D) (hr : D.off = false) (hl : D.left ≠ 0) (hfew : D.waits.length ≤ 1000000) :
    Calls Try.prog 41 #[.pointer (some ⟨xb, 0, none⟩)] w fun e w' => e = .returned (.int .i64 0) ∧ RD w' base sb xb (flushD (deedD D)) ∧ FX base xb w w' := by
  have HP := Aside0.mk h
  obtain ⟨vs, vw, hx⟩ := h
  have c3 : w.cell? ⟨xb, 3, none⟩ = some (.bool false) := by rw [← hr]; exact cell_blk hx.cells
  have hd := xdeed_any HP.out
  rw [decide_eq_true hl] at hd
  obtain ⟨E, hE⟩ : ∃ E, E = deedD D := ⟨_, rfl⟩
  have hwe : E.waits = D.waits := by rw [hE]; unfold deedD; rw [if_neg hl]
  rw [← hE] at hd ⊢
  rw [← hwe] at hfew
  clear hx hr hl hE hwe
  go_enter Try.func41, Try.ntmps41
  go_wp2_with fail
  refine hd.mono ?_
  rintro e w1 ⟨rfl, p, f⟩
  obtain ⟨vs, vw, hx⟩ := p
  obtain ⟨g, cap, rfl, _⟩ := Kd.R_form hx.safe (by have := hx.ok.few; omega)
  obtain ⟨AW, cW, rfl, hcW, _⟩ := Kd.R_reads hx.waits
  have hsl := (Kd.R_reads' hx.safe).1
  rw [hsl] at hx
  have HX := Aside0.mk (show RDx w1 base sb xb (safeTo E 0) (.slice (some ⟨g, 0, none⟩) E.safe.length cap) (.slice AW E.waits.length cW) from hx)
  have HF1 := Aside0.mk f
  have HCAP := Aside0.mk (Kd.R_reads' hx.safe).2.1
  clear f hd c3 hx hsl
  go_wp2_with fail
  go_loopg [3] E.waits.length (fun gg v3 wr => ∃ (i : Nat), Aside0 (i + gg = E.waits.length) ∧ v3 = .int .i64 i ∧ Aside0 (RDx wr base sb xb (safeTo E i) (.slice (some ⟨g, 0, none⟩) E.safe.length cap) (.slice AW E.waits.length cW)) ∧ Aside0 (FX base xb w wr))
  case atStart => exact ⟨0, ⟨by omega⟩, rfl, HX, HF1⟩
  case round =>
    clear HX HF1
    obtain ⟨i, HI, rfl, HX, HF⟩ := hrel
    have c1 : wr.cell? ⟨xb, 1, none⟩ = some (.slice AW E.waits.length cW) := cell_blk HX.out.cells
    by_cases hi : i < E.waits.length
    · obtain ⟨g1, cap1, vb, hvw, hw0, hw1, hwr, hgs, hgl, _⟩ := W_at HX.out.waits i hi
      cases hvw
      have e1 : (safeTo E i).waits[i]'hi = E.waits[i] := rfl
      try rw [e1] at hw0
      try rw [e1] at hwr
      have hat := HX.out.ok.at_ E.waits[i] (List.getElem_mem hi)
      have HNX := Aside0.mk (safeTo_next E i hi)
      have hsl : (safeTo E i).safe.length = E.safe.length := flushTo_len _ _
      rw [hsl] at hat
      clear e1
      obtain ⟨N, hN⟩ : ∃ N, N = E.waits[i].1 := ⟨_, rfl⟩
      obtain ⟨bs, hbs⟩ : ∃ bs, bs = E.waits[i].2 := ⟨_, rfl⟩
      rw [← hN, ← hbs] at hat
      rw [← hN] at hw0
      rw [← hbs] at hwr
      rw [← hN, ← hbs] at HNX
      clear hN hbs
      obtain ⟨n, hn⟩ : ∃ n : Nat, N = n := ⟨N.toNat, by have := hat.1; omega⟩
      subst hn
      rw [Int.toNat_natCast] at HNX
      obtain ⟨ab, cb, rfl⟩ := Kd.R_slice hwr
      have hnl : n < E.safe.length := by have := hat.2.1; omega
      have hfew2 := HX.out.ok.few
      rw [hsl] at hfew2
      obtain ⟨L, hL⟩ : ∃ L, L = E.safe.length := ⟨_, rfl⟩
      rw [← hL] at hnl hfew2 hsl HX
      have HLL := Aside0.mk hL
      rw [← hsl] at HX
      have hput := put_safe (HX.out.below (below_drew1 (Below.refl _ _))) n (by rw [hsl]; exact hnl) (.slice ab bs.length cb) bs hat.2.2.1 hat.2.2.2 hwr
      rw [hsl] at HX hput
      have HPUT := Aside0.mk hput
      have c0 : wr.cell? ⟨xb, 0, none⟩ = some (.slice (some ⟨g, 0, none⟩) L cap) := cell_blk HX.out.cells
      obtain ⟨cells, hg⟩ := own_typed (Kd.R_own HX.out.safe).choose_spec g (by simp [Value.ownBlock])
      have fg : wr.frozen? ⟨g, n, none⟩ = false := frozen_blk hg
      obtain ⟨vold, hold⟩ : ∃ vold, wr.cell? ⟨g, n, none⟩ = some vold := by
        obtain ⟨g', cap', A', c', h1, h2, _⟩ := S_at HX.out.safe n (by rw [hsl]; exact hnl)
        cases h1
        exact ⟨_, h2⟩
      clear hput hat hwr hg hL
      have hm0 : ∀ m : Go.Reg.In (fun x => x = wr.drew), m.w.cell? ⟨xb, 0, none⟩ = some (.slice (some ⟨g, 0, none⟩) L cap) := fun m => by rw [m.h]; exact c0
      have hm1 : ∀ m : Go.Reg.In (fun x => x = wr.drew), m.w.cell? ⟨xb, 1, none⟩ = some (.slice (some ⟨g1, 0, none⟩) E.waits.length cW) := fun m => by rw [m.h]; exact c1
      have hm2 : ∀ m : Go.Reg.In (fun x => x = wr.drew), m.w.cell? ⟨g1, i * 2, none⟩ = some (.int .i64 n) := fun m => by rw [m.h]; exact hw0
      have hm3 : ∀ m : Go.Reg.In (fun x => x = wr.drew), m.w.cell? ⟨g1, i * 2 + 1, none⟩ = some (.slice ab bs.length cb) := fun m => by rw [m.h]; exact hw1
      go_wp2_with fail
      refine Go.Reg.region (fun x => x = wr.drew) [.s, .s, .s, .s, .s, .s, .s, .s, .s, .s, .s, .s, .s, .s, .s, .s, .s, .s, .s, .s, .s, .x] (by kernel_rfl) (by kernel_rfl) rfl (fun ne => ?_)
      refine Go.Reg.lex_q 21 _ _ _ _ (by rfl) ?_; simp only [List.take_succ_cons, List.take_zero, List.drop_succ_cons, List.drop_zero]; (repeat (go_big_quiet_step (rfl))); refine wpQuiet_nil ?_
      refine Go.Reg.step_x (by rfl) (fun K hK => ?_)
      clear hm0 hm1 hm2 hm3
      go_wp2_with fail
      refine hK.out _ _ ?_
      clear hK K
      refine Go.Reg.lex_nil ?_
      go_wp2_with fail
      go_roundg (gk - 1)
      case measure => have := HI.out; omega
      case rel => exact ⟨i + 1, ⟨by have := HI.out; omega⟩, by go_num, ⟨by rw [HNX.out, ← HLL.out]; exact HPUT.out.1⟩, ⟨HF.out.trans ((Fr.of_below (below_drew1 (Below.refl _ _))).trans HPUT.out.2)⟩⟩
    · have hin : i = E.waits.length := by have := HI.out; omega
      subst hin
      have f1 : wr.frozen? ⟨xb, 1, none⟩ = false := frozen_blk HX.out.cells
      have hx := HX.out
      have hb1 := blk_set hx.cells 1 (.slice none 0 0)
      obtain ⟨w8, hw8⟩ : ∃ w8, w8 = wr.setCell ⟨xb, 1, none⟩ (.slice none 0 0) := ⟨_, rfl⟩
      rw [← hw8] at hb1
      have hx8 : RDx w8 base sb xb { safeTo E E.waits.length with waits := [] } (.slice (some ⟨g, 0, none⟩) E.safe.length cap) (.slice none 0 0) := by
        refine ⟨none_ok hx.ok, hx.xbase, by rw [hw8]; simpa [World.setCell] using hx.slt, hx.sown, fun _ h => by simp [Value.ownBlock] at h, ?_, by rw [hw8]; exact Kd.R_set hx.safe hx.cells (by decide) 1 _, Kd.R_nil _ _ _ _ _⟩
        rw [hb1]; rfl
      have HX8 := Aside0.mk hx8
      have HF8 := Aside0.mk (show FX base xb w w8 by rw [hw8]; exact HF.out.trans (.set _ _ _ _ rfl))
      have HW8 := Aside0.mk hw8
      clear hw8 hb1 hx8 hx
      have c6 : wr.cell? ⟨xb, 6, none⟩ = some (.int .i64 E.flushes) := cell_blk HX.out.cells
      have f6 : wr.frozen? ⟨xb, 6, none⟩ = false := frozen_blk HX.out.cells
      go_wp2_with fail
      rw [← HW8.out]
      go_ret
      exact ⟨rfl, ⟨_, _, HX8.out.put 6 _ (D' := flushD E) (cnt_ok HX8.out.ok rfl rfl rfl) rfl rfl rfl⟩, HF8.out.trans (.set _ _ _ _ rfl)⟩
end Disk
end Go.Proofs.Ytooemgcijbdilaa
