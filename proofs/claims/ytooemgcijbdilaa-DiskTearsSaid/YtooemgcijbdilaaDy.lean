/- The disk in memory: crashes. -/
import Derived.Test.YtooemgcijbdilaaDx
import Derived.Below
import Derived.Lib.Hide
import Derived.OwnWalk
import Derived.WalkKit
import Derived.KernelRfl
import Derived.RowKit3
import Derived.Deep.LoopGhost
import Derived.Deep.QuietTactic
import Derived.BigQuiet
import Derived.WideLaws
import Derived.Great.BuildSlice
import Derived.Outline
import Derived.Deep.DeepCutAuto
import Derived.WalkSpells
import Derived.RegionTactic
import Derived.BigRegion
import Derived.WalkLawsBesides
namespace Go.Proofs.Ytooemgcijbdilaa
set_option linter.unusedVariables false
set_option linter.unusedSimpArgs false
open Go.RowKit Go.Proofs.YtooemgcijbdilaaW.PrintWords Go.Proofs.YtooemgcijbdilaaW.PrintLast Go.Proofs.YtooemgcijbdilaaW.PrintMore
namespace Disk
open Go.Disk PDiskDoes
/-- A waiting write's cells. -/
theorem W_at {w : World} {base sb : Nat} {vw : Value} {ws : List (Int × List Int)} (h : Kd.R kW 77 w base (fun k => k ≠ sb) vw ws) (j : Nat) (hj : j < ws.length) :
    ∃ g cap vb, vw = .slice (some ⟨g, 0, none⟩) ws.length cap ∧ w.cell? ⟨g, j * 2, none⟩ = some (.int .i64 (ws[j].1)) ∧ w.cell? ⟨g, j * 2 + 1, none⟩ = some vb ∧ Kd.R (Kd.int .u8) 5 w base (fun k => k ≠ sb) vb ws[j].2 ∧ g ≠ sb ∧ g < w.heap.size ∧ ws.length ≤ cap := by
  obtain ⟨h0, inner, ⟨hl, ho⟩, hr1, hr2⟩ := h
  have hm := hr2 j _ (List.getElem?_eq_getElem hj)
  obtain ⟨c0, c1, e, hk0, vb, hk1, hR⟩ := hm
  rcases ho with ⟨_, hz⟩ | ⟨g, cap, cur, rfl, hbase, hb, hn, hmx, hcs, hcur⟩
  · omega
  · have hk0' : c0 = [.int .i64 ws[j].1] := hk0
    subst hk0' hk1
    have hcell : ∀ t, t < 2 → w.cell? ⟨g, j * 2 + t, none⟩ = ((inner.drop (j * 2)).take 2)[t]? := fun t ht => by
      have hsz : kW.sz = 2 := rfl
      rw [hsz] at hcur hcs hl
      rw [cell_blk hb, List.getElem?_take_of_lt ht, List.getElem?_drop, ← hcur, List.getElem?_take_of_lt (by omega), Array.getElem?_toList]
    have hsz : kW.sz = 2 := rfl
    rw [hsz] at e
    rw [e] at hcell
    have q0 := hcell 0 (by omega)
    have q1 := hcell 1 (by omega)
    simp at q0 q1
    refine ⟨g, cap, vb, rfl, q0, q1, Kd.R_mono hR (fun k hk => hk.1), ?_, blk_lt hb, hn⟩
    exact h0 g rfl
def crashTo : Dk → List (Int × List Int) → List Int → Dk
  | D, p :: ws, m :: ms => crashTo (tearD D p.1.toNat p.2 m) ws ms
  | D, _, _ => D
theorem crashTo_snoc : ∀ (ws : List (Int × List Int)) (ms : List Int) (D : Dk) (p : Int × List Int) (m : Int), ws.length = ms.length → crashTo D (ws ++ [p]) (ms ++ [m]) = tearD (crashTo D ws ms) p.1.toNat p.2 m
  | [], [], D, p, m, _ => rfl
  | q :: ws, n :: ms, D, p, m, h => by
    show crashTo (tearD D q.1.toNat q.2 n) (ws ++ [p]) (ms ++ [m]) = tearD (crashTo (tearD D q.1.toNat q.2 n) ws ms) p.1.toNat p.2 m
    exact crashTo_snoc ws ms _ p m (by simpa using h)
  | [], _ :: _, _, _, _, h => by simp at h
  | _ :: _, [], _, _, _, h => by simp at h
theorem crashTo_next (D : Dk) (ws : List (Int × List Int)) (ms : List Int) (i : Nat) (h1 : i < ws.length) (h2 : i < ms.length) : crashTo D (ws.take (i + 1)) (ms.take (i + 1)) = tearD (crashTo D (ws.take i) (ms.take i)) ws[i].1.toNat ws[i].2 ms[i] := by
  rw [List.take_succ_eq_append_getElem h1, List.take_succ_eq_append_getElem h2]
  exact crashTo_snoc _ _ _ _ _ (by rw [List.length_take, List.length_take]; omega)
theorem crashTo_all (D : Dk) : ∀ (ws : List (Int × List Int)) (ms : List Int) (n : Nat), n = min ws.length ms.length → crashTo D (ws.take n) (ms.take n) = crashTo D ws ms := by
  intro ws
  induction ws generalizing D with
  | nil => intro ms n h; simp [crashTo]
  | cons p ws ih =>
    intro ms n h
    cases ms with
    | nil => simp at h; subst h; rfl
    | cons m ms =>
      simp at h
      obtain ⟨k, rfl⟩ : ∃ k, n = k + 1 := ⟨n - 1, by omega⟩
      exact ih _ ms k (by omega)
theorem crashTo_safe : ∀ (ws : List (Int × List Int)) (ms : List Int) (D : Dk), (crashTo D ws ms).safe.length = D.safe.length ∧ (crashTo D ws ms).waits = D.waits
  | p :: ws, m :: ms, D => by
    have h := crashTo_safe ws ms (tearD D p.1.toNat p.2 m)
    refine ⟨h.1.trans ?_, h.2⟩
    show (D.safe.set _ _).length = _
    rw [List.length_set]
  | [], _, D => ⟨by cases ‹List Int› <;> rfl, by cases ‹List Int› <;> rfl⟩
  | _ :: _, [], D => ⟨rfl, rfl⟩
def crashD (D : Dk) (ms : List Int) : Dk := { crashTo D D.waits ms with waits := [], off := false, left := -1 }
theorem calm_ok {D : Dk} (h : Ok D) : Ok { D with waits := [], off := false, left := -1 } := ⟨h.few, h.len, h.byte, fun p hp => by simp at hp, by show (-1 : Int) ≤ -1; omega, by show (-1 : Int) ≤ 9223372036854775807; omega⟩
set_option maxHeartbeats 8000000 in
set_option maxRecDepth 100000 in
theorem crash_any {w : World} {base db sb : Nat} {D : Dk} (h : PD w base db sb D) (A : Option Addr) (c : Nat) (ms : List Int) (hC : Kd.C (Kd.int .i64) w A ms.length ms) (hc : ms.length ≤ c) (hCs : ∀ x, Fr (fun k => k = sb) (fun _ _ => False) w x → Kd.C (Kd.int .i64) x A ms.length ms) :
    Calls Try.prog 12 #[.pointer (some ⟨db, 0, none⟩), .slice A ms.length c] w fun e w' => (∃ v, e = .returned v) ∧ PD w' base db sb (crashD D ms) ∧ FP base db sb w w' := by
  have HPD := Aside0.mk h
  obtain ⟨vw, cs, sp, h⟩ := h
  have HX := Aside0.mk h
  have HC := Aside0.mk hCs
  obtain ⟨AW, cW, rfl, hcW, _⟩ := Kd.R_reads h.waits
  have c1 : w.cell? ⟨db, 1, none⟩ = some (.slice AW D.waits.length cW) := cell_blk h.cells
  have hmb : ms.length ≤ 9223372036854775807 := hC.2.1
  clear h hC hCs
  obtain ⟨n, hn⟩ : ∃ n, n = min D.waits.length ms.length := ⟨_, rfl⟩
  have HN := Aside0.mk hn
  clear hn
  go_enter Try.func12, Try.ntmps12
  go_wp2_with fail
  have hm1 : ∀ m : Go.Reg.In (fun x => x = w.drew), m.w.cell? ⟨db, 1, none⟩ = some (.slice AW D.waits.length cW) := fun m => by rw [m.h]; exact c1
  have hmin : ((min (D.waits.length : Int) (ms.length : Int)) : Int) = n := by have := HN.out; omega
  have q1 : (n : Int) ≤ cW := by have := HN.out; omega
  refine Go.Reg.region (fun x => x = w.drew) [.s, .s, .s, .s, .s, .s, .s, .s, .s, .s, .s, .s, .s, .s, .s] (by kernel_rfl) (by kernel_rfl) rfl (fun ne => ?_)
  refine Go.Reg.lex_q 15 _ _ _ _ (by rfl) ?_; simp only [List.take_succ_cons, List.take_zero, List.drop_succ_cons, List.drop_zero]; (repeat (go_big_quiet_step (rfl)))
  have hite : (if ms.length < D.waits.length then (ms.length : Int) else (D.waits.length : Int)) = (n : Int) := by
    have := HN.out
    split <;> omega
  have hmx : max (n : Int) 0 = n := by omega
  simp only [hite, Int.toNat_natCast, hmx]
  refine wpQuiet_nil ?_
  refine Go.Reg.lex_nil ?_
  go_wp2_with fail
  clear hm1 hite hmx hmin
  have HN1 := Aside0.mk (show n ≤ D.waits.length ∧ n ≤ ms.length by have := HN.out; omega)
  obtain ⟨W, hW⟩ : ∃ W, W = w.drew := ⟨_, rfl⟩
  rw [← hW]
  have HFW := Aside0.mk (show Fr (fun k => k = sb) (fun _ _ => False) w W by rw [hW]; exact .of_below (below_drew1 (Below.refl _ _)))
  have HPW := Aside0.mk (show PD W base db sb D by rw [hW]; exact HPD.out.below (below_drew1 (Below.refl _ _)))
  clear hW
  go_loopg [22, 4, 5] n (fun g v22 v4 v5 wr => ∃ (i : Nat), Aside0 (i + g = n) ∧ v22 = .int .i64 i ∧ Aside0 (PD wr base db sb (crashTo D (D.waits.take i) (ms.take i))) ∧ Aside0 (Fr (fun k => k = sb) (fun _ _ => False) w wr))
  case atStart => exact ⟨0, ⟨by omega⟩, rfl, by simpa [crashTo] using HPW, HFW⟩
  case round =>
    clear HPW HFW
    obtain ⟨i, HI, rfl, HP, HF⟩ := hrel
    have hws := (crashTo_safe (D.waits.take i) (ms.take i) D)
    have HWS := Aside0.mk hws
    clear hws
    by_cases hi : i < n
    · have hiw : i < D.waits.length := by have := HN1.out; omega
      have him : i < ms.length := by have := HN1.out; omega
      obtain ⟨g, cap, vb, hvw, hw0, hw1, hwr, hgs, hgl, _⟩ := W_at HX.out.waits i hiw
      cases hvw
      obtain ⟨ab, cb, hvb, hcb, _⟩ := Kd.R_reads hwr
      subst hvb
      have hat := HX.out.ok.at_ _ (List.getElem_mem hiw)
      obtain ⟨N, hN⟩ : ∃ N, N = D.waits[i].1 := ⟨_, rfl⟩
      obtain ⟨bs, hbs⟩ : ∃ bs, bs = D.waits[i].2 := ⟨_, rfl⟩
      rw [← hN, ← hbs] at hat
      rw [← hN] at hw0
      rw [← hbs] at hw1 hwr hcb
      have HNX := Aside0.mk (crashTo_next D D.waits ms i hiw him)
      rw [← hN, ← hbs] at HNX
      clear hN hbs
      have g0 : wr.cell? ⟨g, i * 2, none⟩ = some (.int .i64 N) := ((World.cell?_of_block (w := w) (HF.out.block g hgl hgs (fun _ _ _ _ h => h)))).trans hw0
      have g1 : wr.cell? ⟨g, i * 2 + 1, none⟩ = some (.slice ab bs.length cb) := ((World.cell?_of_block (w := w) (HF.out.block g hgl hgs (fun _ _ _ _ h => h)))).trans hw1
      have HWR := Aside0.mk hwr
      have HAT := Aside0.mk hat
      clear hw0 hw1 hwr hat
      obtain ⟨aw, haw, _⟩ := Kd.at_int (Kd.R_reads' HWR.out).2.2 0 (by omega) (by have := HAT.out.2.2.1; omega)
      subst haw
      go_wp2_with fail
      obtain ⟨V, hV⟩ : ∃ V, V = wr.alloc (.cells #[.int .i64 N, .slice (some aw) bs.length cb] 77) := ⟨_, rfl⟩
      have hal : Below wr.heap.size wr V := by rw [hV]; exact (Below.refl _ _).alloc (Nat.le_refl _) _
      have hbx : V.heap[wr.heap.size]? = some (.cells #[.int .i64 N, .slice (some aw) bs.length cb] 77 (0, 0)) := by rw [hV]; exact heap_alloc_new wr _
      rw [← hV]
      have HBX := Aside0.mk hbx
      have HAL := Aside0.mk hal
      clear hV hal hbx g0 g1
      have HFV := Aside0.mk (HF.out.trans ((Fr.of_below HAL.out).trans (Fr.of_below (below_drew1 (Below.refl V.heap.size V)))))
      obtain ⟨am, ham, hcm⟩ := Kd.at_int (HC.out _ HFV.out) (i : Int) (by omega) (by omega)
      subst ham
      rw [Int.toNat_natCast] at hcm
      obtain ⟨mk, hmk⟩ : ∃ mk, mk = rd ms i := ⟨_, rfl⟩
      have HMK := Aside0.mk (show mk = ms[i] by rw [hmk]; unfold rd; simp [him])
      rw [← hmk] at hcm
      clear hmk
      have hm0 : ∀ m : Go.Reg.In (fun x => x = V.drew), m.w.cell? ⟨wr.heap.size, 0, none⟩ = some (.int .i64 N) := fun m => by rw [m.h]; exact cell_blk (w := V) HBX.out
      have hm1 : ∀ m : Go.Reg.In (fun x => x = V.drew), m.w.cell? ⟨wr.heap.size, 1, none⟩ = some (.slice (some aw) bs.length cb) := fun m => by rw [m.h]; exact cell_blk (w := V) HBX.out
      have hm2 : ∀ m : Go.Reg.In (fun x => x = V.drew), m.w.cell? (am.add i) = some (.int .i64 mk) := fun m => by rw [m.h]; exact hcm
      refine Go.Reg.region (fun x => x = V.drew) [.s, .s, .s, .s, .s, .s, .x] (by kernel_rfl) (by kernel_rfl) rfl (fun ne => ?_)
      refine Go.Reg.lex_q 6 _ _ _ _ (by rfl) ?_; simp only [List.take_succ_cons, List.take_zero, List.drop_succ_cons, List.drop_zero]; (repeat (go_big_quiet_step (rfl))); refine wpQuiet_nil ?_
      refine Go.Reg.step_x (by rfl) (fun K hK => ?_)
      clear hm0 hm1 hm2 hcm
      go_wp2_with fail
      have hwl := HF.out.size
      refine (tear_any ((HP.out.below HAL.out).below (below_drew1 (Below.refl _ _))) N aw cb bs mk ?tN HAT.out.2.2.1 (by have := HAT.out.2.2.1; omega) ?tC HAT.out.2.2.2).mono ?_
      case tN => rw [HWS.out.1]; exact ⟨HAT.out.1, HAT.out.2.1⟩
      case tC => exact fun x hx => (Kd.R_reads' (Kd.R_step HWR.out (fun j hj hlt => (hx j (Nat.lt_of_lt_of_le hlt (Nat.le_trans hwl HAL.out.size)) hj).trans ((HAL.out.block j (by omega)).trans (HF.out.block j hlt hj (fun _ _ _ _ h => h)))))).2.2
      rintro e w5 ⟨⟨v5, rfl⟩, hp5, hf5⟩
      have HP5 := Aside0.mk hp5
      have HF5 := Aside0.mk (HFV.out.trans hf5)
      clear hp5 hf5
      go_wp2_with fail
      refine hK.out _ _ ?_
      clear hK K
      refine Go.Reg.lex_nil ?_
      have hnm := HN1.out.2
      go_wp2_with fail
      go_roundg (gk - 1)
      case measure => have := HI.out; omega
      case rel => exact ⟨i + 1, ⟨by have := HI.out; omega⟩, by go_num, ⟨by rw [HNX.out, ← HMK.out]; exact HP5.out⟩, HF5⟩
    · have hin : i = n := by have := HI.out; omega
      subst hin
      rw [crashTo_all D D.waits ms i HN.out] at HP
      obtain ⟨vw', cs', sp', hx⟩ := HP.out
      have c1 : wr.cell? ⟨db, 1, none⟩ = some vw' := cell_blk hx.cells
      have c2 : wr.cell? ⟨db, 2, none⟩ = some (.int .i64 (crashTo D D.waits ms).left) := cell_blk hx.cells
      have c3 : wr.cell? ⟨db, 3, none⟩ = some (.bool (crashTo D D.waits ms).off) := cell_blk hx.cells
      have f1 : wr.frozen? ⟨db, 1, none⟩ = false := frozen_blk hx.cells
      have f2 : wr.frozen? ⟨db, 2, none⟩ = false := frozen_blk hx.cells
      have f3 : wr.frozen? ⟨db, 3, none⟩ = false := frozen_blk hx.cells
      have HXX := Aside0.mk hx
      clear hx
      go_wp2_with fail
      go_end0
      have hx := HXX.out
      have hok := calm_ok hx.ok
      have hb3 := blk_set (blk_set (blk_set hx.cells 1 (.slice none 0 0)) 3 (.bool false)) 2 (.int .i64 (-1))
      have hne := hx.ne
      refine ⟨⟨_, rfl⟩, ⟨.slice none 0 0, cs', sp', hok, hx.dbase, hx.sbase, ?_, Kd.R_nil _ _ _ _ _, ?_, hx.room⟩, ?_⟩
      · rw [hb3]
        rfl
      · rw [Below.heap_setCell _ _ _ _ (Ne.symm hne), Below.heap_setCell _ _ _ _ (Ne.symm hne), Below.heap_setCell _ _ _ _ (Ne.symm hne)]
        exact hx.safe
      · exact (HF.out.mono (fun _ h => .inr h) (fun _ _ h => h.elim)).trans (((Fr.set _ _ _ _ (.inl rfl)).trans (Fr.set _ _ _ _ (.inl rfl))).trans (Fr.set _ _ _ _ (.inl rfl)))
end Disk
end Go.Proofs.Ytooemgcijbdilaa
