/- Clones; one deed with both disks. -/
import Derived.Test.YtooemgcijbdilaaH6
import Derived.Below
import Derived.Lib.Hide
import Derived.OwnWalk
import Derived.WalkKit
import Derived.KernelRfl
import Derived.RowKit3
import Derived.Deep.LoopGhost
import Derived.Deep.QuietTactic
import Derived.BigQuiet
import Derived.WideLaws
import Derived.Great.BuildSlice
import Derived.Outline
import Derived.Deep.DeepCutAuto
import Derived.WalkSpells
import Derived.RegionTactic
import Derived.BigRegion
import Derived.WalkLawsBesides
namespace Go.Proofs.Ytooemgcijbdilaa
set_option linter.unusedVariables false
set_option linter.unusedSimpArgs false
open Go.RowKit Go.Proofs.YtooemgcijbdilaaW.PrintWords Go.Proofs.YtooemgcijbdilaaW.PrintLast Go.Proofs.YtooemgcijbdilaaW.PrintMore
namespace Disk
open Go.Disk PDiskDoes

theorem eq_nil_w (a : Addr) (n c : Nat) (W : World) : (binOp BinOp.eql 66 (.slice (some a) n c) (.slice none 0 0)).run Try.prog W = .ok (.bool false) W := by
  kernel_rfl
theorem eq_nil_n (W : World) : (binOp BinOp.eql 66 (.slice none 0 0) (.slice none 0 0)).run Try.prog W = .ok (.bool true) W := by
  kernel_rfl
theorem store_at (w : World) (b k : Nat) (x y : Int) (hc : w.cell? ⟨b, k, none⟩ = some (.int .i64 x)) (hf : w.frozen? ⟨b, k, none⟩ = false) :
    Calls Try.prog 49 #[.pointer (some ⟨b, k, none⟩), .int .i64 y] w fun e w' => (∃ v, e = .returned v) ∧ w' = w.setCell ⟨b, k, none⟩ (.int .i64 y) := by
  have hst := run_call_store (P := Try.prog) Try.func57 (by kernel_rfl) (by kernel_rfl) (by kernel_rfl) (by kernel_rfl) (k := .i64) (y := y) hc hf
  go_enter Try.func49, Try.ntmps49
  go_wp2_with fail
  go_end0
  exact ⟨⟨_, rfl⟩, rfl⟩
theorem R_shape {α : Type} {d : Kd α} {e : Nat} {w : World} {base : Nat} {ok : Nat → Prop} {v : Value} {xs : List α} (h : Kd.R d e w base ok v xs) :
    (v = .slice none 0 0 ∧ xs = []) ∨ ∃ g cap, v = .slice (some ⟨g, 0, none⟩) xs.length cap := by
  obtain ⟨_, inner, ho, hr⟩ := h
  rcases ho with ⟨h1, h2⟩
  rcases h2 with ⟨hv, hz⟩ | ⟨g, cap, cur, hv, _⟩
  · exact .inl ⟨hv, List.eq_nil_of_length_eq_zero hz⟩
  · exact .inr ⟨g, cap, hv⟩
set_option maxHeartbeats 8000000 in
set_option maxRecDepth 100000 in
theorem clone_w {w : World} {ok : Nat → Prop} {vw : Value} {ws : List (Int × List Int)} (h : Kd.R kW 77 w 0 ok vw ws) (hf : ∀ k, w.heap.size ≤ k → ok k) (hl : ws.length ≤ 1000000) :
    Calls Try.prog 48 #[vw] w fun e w' => ∃ v, e = .returned v ∧ Kd.R kW 77 w' 0 ok v ws ∧ (∀ k, v.ownBlock = some k → w.heap.size ≤ k) ∧ Below w.heap.size w w' := by
  have HH := Aside0.mk h
  have HF := Aside0.mk hf
  clear hf
  rcases R_shape h with ⟨rfl, rfl⟩ | ⟨g, cap, rfl⟩
  · clear h
    have heq := eq_nil_n
    go_enter Try.func48, Try.ntmps48
    go_wp2_with fail
    go_ret
    exact ⟨_, rfl, HH.out, fun k hk => by simp [Value.ownBlock] at hk, Below.refl _ _⟩
  · clear h
    have heq := eq_nil_w ⟨g, 0, none⟩ ws.length cap
    go_enter Try.func48, Try.ntmps48
    go_wp2_with ((with_reducible refine gate_builtin (b := .append) (xs := #[.tmp 5, .tmp 6]) rfl ?_); at_builtin; refine Hid.out ?_)
    refine Lib.hid ?_
    obtain ⟨W, hW⟩ : ∃ W, W = w.alloc (.cells #[] 77) := ⟨_, rfl⟩
    have hal : Below w.heap.size w W := by rw [hW]; exact (Below.refl w.heap.size w).alloc (Nat.le_refl _) _
    have HAL := Aside0.mk hal
    have hH := Kd.R_below (Kd.R_bound HH.out) hal
    obtain ⟨A1, c1, e1, _, hrow⟩ := OwnRow.reads hH.2
    cases e1
    have HO := Aside0.mk (show Kd.R kW 77 W 0 ok (.slice (some ⟨w.heap.size, 0, none⟩) 0 0) [] by
      rw [hW]
      exact ⟨fun k hk => HF.out k (by simp [Value.ownBlock] at hk; omega), OwnRow.lit w 0 (Reps.none _ _) (Nat.zero_le _) (by simp)⟩)
    have HROW := Aside0.mk hrow
    have hsz : W.heap.size = w.heap.size + 1 := by rw [hW]; simp
    have HRL := Aside0.mk (Kd.R_lt HH.out)
    rw [← hW]
    clear hW hal hH hrow
    refine Kd.R_append_rows kW (w0 := W) 0 rfl (.tmp 5) (.tmp 6) 66 77 (.agg #[.int .i64 0, .slice none 0 0]) 32 rfl Try.underlying66 infoW rfl (by decide) (by omega) (.slice (some ⟨w.heap.size, 0, none⟩) 0 0) [] ws (some ⟨g, 0, none⟩) ws.length cap ok (fun k => ok k ∧ k < w.heap.size) rfl rfl HO.out HROW.out (fun x cs h => kW.M_mono (fun k hk => ⟨hk.1.1, hk.1.2.2.1⟩) h) ?aK ?aF (Below.refl _ _) (Nat.zero_le _) ?aL ?_
    case aK => exact fun k hk => ⟨hk.1, by simp [Value.ownBlock]; omega⟩
    case aF => exact fun k hk => HF.out k (by omega)
    case aL => simp; omega
    intro v1 w1 ho _ hg hat
    have HO1 := Aside0.mk ho
    have HG := Aside0.mk hg
    have HAT := Aside0.mk hat
    have HSZ := Aside0.mk hsz
    clear ho hg hat hsz
    go_wp2_with fail
    go_ret
    refine ⟨v1, rfl, by simpa using HO1.out, fun k hk => ?_, ?_⟩
    · rcases HAT.out with h | ⟨b, h1, h2⟩
      · rw [hk] at h; simp [Value.ownBlock] at h; omega
      · rw [hk] at h1; cases h1; have := HSZ.out; omega
    · exact pw_below_grown HAL.out _ HAL.out.size HG.out (fun k hk => by simp [Value.ownBlock] at hk; omega)
theorem blk3_set {w : World} {b : Nat} {cs : Array Value} {t : Nat} (h : w.heap[b]? = some (.cells cs t (0, 0))) (k : Nat) (v : Value) : (w.setCell ⟨b, k, none⟩ v).heap[b]? = some (.cells (cs.setIfInBounds k v) t (0, 0)) := blk_set h k v
set_option maxHeartbeats 8000000 in
set_option maxRecDepth 100000 in
theorem clone_any {w : World} {base db sb : Nat} {D : Dk} (h : PD w base db sb D) (hfew : D.waits.length ≤ 1000000) :
    Calls Try.prog 25 #[.pointer (some ⟨db, 0, none⟩)] w fun e w' => ∃ db' sb', e = .returned (.pointer (some ⟨db', 0, none⟩)) ∧ PD w' w.heap.size db' sb' D ∧ Below w.heap.size w w' := by
  have HP := Aside0.mk h
  obtain ⟨vw, cs, sp, hx⟩ := h
  have hok := hx.ok
  have hfl := flatLen hok
  have hfew1 := hok.few
  have hroom := hx.room
  have hdl : db < w.heap.size := blk_lt hx.cells
  have HX := Aside0.mk hx
  have HFL := Aside0.mk hfl
  obtain ⟨F, hF⟩ : ∃ F, F = D.safe.flatten := ⟨_, rfl⟩
  rw [← hF] at hfl hroom
  have HFF := Aside0.mk hF
  have hFl : F.length ≤ 262144 := by omega
  have hFn : F.length ≠ 0 := by omega
  have HC := Aside0.mk (show Kd.C (Kd.int .u8) w (some ⟨sb, 0, none⟩) F.length F from by
    refine Kd.C_of_reads (enc := fun x => Value.int .u8 x) (d := (0:Int)) (h1 := fun _ => rfl) ⟨rfl, by omega, fun _ => ⟨_, rfl, fun j hj => ?_⟩⟩
    rw [add_plain, cell_blk hx.safe, List.getElem?_toArray, List.getElem?_append_left (by rw [u8s_len, ← hF]; exact hj)]
    unfold u8s
    rw [← hF, List.getElem?_map, List.getD_eq_getElem?_getD, List.getElem?_eq_getElem hj]
    rfl)
  have HFL2 := Aside0.mk hFn
  have HMAX := Aside0.mk hFl
  clear hx hok hF hfl hroom hFl hFn hfew1
  obtain ⟨fl, hfl⟩ : ∃ fl, fl = F.length := ⟨_, rfl⟩
  have hm0 : ∀ m : Go.Reg.In (Below w.heap.size w), m.w.cell? ⟨db, 0, none⟩ = some (.slice (some ⟨sb, 0, none⟩) fl cs) := fun m => by rw [m.h.cell hdl, hfl, HFF.out]; exact cell_blk HX.out.cells
  have hm1 : ∀ m : Go.Reg.In (Below w.heap.size w), m.w.cell? ⟨db, 1, none⟩ = some vw := fun m => by rw [m.h.cell hdl]; exact cell_blk HX.out.cells
  have hm2 : ∀ m : Go.Reg.In (Below w.heap.size w), m.w.cell? ⟨db, 2, none⟩ = some (.int .i64 D.left) := fun m => by rw [m.h.cell hdl]; exact cell_blk HX.out.cells
  have hm3 : ∀ m : Go.Reg.In (Below w.heap.size w), m.w.cell? ⟨db, 3, none⟩ = some (.bool D.off) := fun m => by rw [m.h.cell hdl]; exact cell_blk HX.out.cells
  have HL := Aside0.mk hfl
  clear hfl
  go_enter Try.func25, Try.ntmps25
  go_wp2_with fail
  refine Go.Reg.region (Below w.heap.size w) [.s, .s, .s, .s, .w, .s, .s, .s, .s, .w, .s, .s, .s, .s, .s, .s, .s, .s, .s, .w, .s] (by kernel_rfl) (by kernel_rfl) (below_drew1 (Below.refl _ _)) (fun ne => ?_)
  refine Go.Reg.lex_q 4 _ _ _ _ (by rfl) ?_; simp only [List.take_succ_cons, List.take_zero, List.drop_succ_cons, List.drop_zero]; (repeat (go_big_quiet_step (rfl))); refine wpQuiet_nil ?_
  refine Go.Reg.step_w (fun K hK => ?_)
  go_wp2_with fail
  have hcl := clone8 ⟨sb, 0, none⟩ cs F (Kd.C_below HC.out (below_drew1 (Below.refl w.heap.size w))) HMAX.out
  rw [← HL.out] at hcl
  refine hcl.mono ?_
  rintro e w2 ⟨v2, rfl, hr2, _, b2⟩
  obtain ⟨sb', cap, sp', rfl, hsb', hcells, hcap⟩ := row_cells hr2 HFL2.out
  rw [← HL.out]
  have HB2 := Aside0.mk ((below_drew1 (Below.refl w.heap.size w)).trans b2)
  have HS2 := Aside0.mk hcells
  have HSB := Aside0.mk (show w.heap.size ≤ sb' from hsb')
  have HCAP := Aside0.mk hcap
  clear hcl hr2 b2 hcells hsb' hcap
  go_wp2_with fail
  refine hK.out _ _ HB2.out ?_
  clear hK K
  try simp only [Act.put, List.setIfInBounds_toArray, List.set_cons_succ, List.set_cons_zero]
  refine Go.Reg.lex_q 4 _ _ _ _ (by rfl) ?_; simp only [List.take_succ_cons, List.take_zero, List.drop_succ_cons, List.drop_zero]; (repeat (go_big_quiet_step (rfl))); refine wpQuiet_nil ?_
  refine Go.Reg.step_w (fun K hK => ?_)
  go_wp2_with fail
  have hsl : sb' < w2.heap.size := blk_lt HS2.out
  refine (clone_w (ok := fun k => k ≠ sb') (ws := D.waits) (Kd.R_mono (Kd.R_below (Kd.R_bound HX.out.waits) HB2.out) (fun k hk => by have := hk.2.2.1; have := HSB.out; omega)) (fun k hk => by omega) hfew).mono ?_
  rintro e w3 ⟨v3, rfl, hr3, ho3, b3⟩
  obtain ⟨A3, c3, rfl⟩ := Kd.R_slice hr3
  have HR3 := Aside0.mk hr3
  have HO3 := Aside0.mk (fun k hk => Nat.le_trans HB2.out.size (ho3 k hk))
  have HS3 := Aside0.mk ((b3.block _ hsl).trans HS2.out)
  have HB3 := Aside0.mk (HB2.out.trans (b3.mono HB2.out.size))
  clear hr3 ho3 b3 hsl HS2
  go_wp2_with fail
  refine hK.out _ _ HB3.out ?_
  clear hK K
  try simp only [Act.put, List.setIfInBounds_toArray, List.set_cons_succ, List.set_cons_zero]
  refine Go.Reg.lex_q 9 _ _ _ _ (by rfl) ?_; simp only [List.take_succ_cons, List.take_zero, List.drop_succ_cons, List.drop_zero]; (repeat (go_big_quiet_step (rfl))); refine wpQuiet_nil ?_
  refine Go.Reg.step_w (fun K hK => ?_)
  go_wp2_with fail
  refine hK.out _ _ (HB3.out.alloc HB3.out.size _) ?_
  clear hK K
  refine Go.Reg.lex_q 1 _ _ _ _ (by rfl) ?_; simp only [List.take_succ_cons, List.take_zero, List.drop_succ_cons, List.drop_zero]; (repeat (go_big_quiet_step (rfl))); refine wpQuiet_nil ?_
  refine Go.Reg.lex_nil ?_
  clear hm0 hm1 hm2 hm3
  obtain ⟨w4, hw4⟩ : ∃ w4, w4 = w3.alloc (.cells #[.slice (some ⟨sb', 0, none⟩) fl cap, .slice A3 D.waits.length c3, .int .i64 D.left, .bool D.off, .int .i64 0, .int .i64 0, .int .i64 0] 75) := ⟨_, rfl⟩
  have hb4 : Below w3.heap.size w3 w4 := by rw [hw4]; exact (Below.refl _ _).alloc (Nat.le_refl _) _
  have hc4 : w4.heap[w3.heap.size]? = some (.cells #[.slice (some ⟨sb', 0, none⟩) fl cap, .slice A3 D.waits.length c3, .int .i64 D.left, .bool D.off, .int .i64 0, .int .i64 0, .int .i64 0] 75 (0, 0)) := by rw [hw4]; exact heap_alloc_new w3 _
  rw [← hw4]
  obtain ⟨db', hdb'⟩ : ∃ db', db' = w3.heap.size := ⟨_, rfl⟩
  rw [← hdb'] at hc4 ⊢
  have HDB := Aside0.mk (show w.heap.size ≤ db' by rw [hdb']; exact HB3.out.size)
  have HOK := Aside0.mk HX.out.ok
  have HP4 := Aside0.mk (show PDx w4 w.heap.size db' sb' { D with reads := 0, writes := 0, flushes := 0 } (.slice A3 D.waits.length c3) cap sp' from ⟨cnt_ok HOK.out rfl rfl rfl, HDB.out, HSB.out, HO3.out, by rw [hc4, HL.out, HFF.out], Kd.R_below HR3.out hb4, by rw [hb4.block _ (blk_lt HS3.out), HS3.out, HFF.out], by rw [← HCAP.out, HFF.out]⟩)
  have HB4 := Aside0.mk (HB3.out.trans (hb4.mono HB3.out.size))
  clear hw4 hb4 hc4 hdb' HR3 HO3 HS3 HB3
  go_wp2_with fail
  refine (stat_any (HP.out.below HB4.out)).mono ?_
  rintro e w5 ⟨rfl, b5⟩
  have HP5 := Aside0.mk (HP4.out.below b5)
  have HB5 := Aside0.mk (HB4.out.trans (b5.mono HB4.out.size))
  clear b5 HP4 HB4
  go_wp2_with fail
  obtain ⟨w6, hw6⟩ : ∃ w6, w6 = w5.alloc (.cells #[.int .i64 D.reads, .int .i64 D.writes, .int .i64 D.flushes] 51) := ⟨_, rfl⟩
  have hb6 : Below w5.heap.size w5 w6 := by rw [hw6]; exact (Below.refl _ _).alloc (Nat.le_refl _) _
  have hc6 : w6.heap[w5.heap.size]? = some (.cells #[.int .i64 D.reads, .int .i64 D.writes, .int .i64 D.flushes] 51 (0, 0)) := by rw [hw6]; exact heap_alloc_new w5 _
  rw [← hw6]
  obtain ⟨st, hst⟩ : ∃ st, st = w5.heap.size := ⟨_, rfl⟩
  rw [← hst] at hc6 ⊢
  have ST0 := Aside0.mk hc6
  have HNE := Aside0.mk (show st ≠ db' by have := blk_lt HP5.out.cells; omega)
  have DP0 := Aside0.mk (HP5.out.below hb6)
  have BB0 := Aside0.mk (HB5.out.trans (hb6.mono HB5.out.size))
  clear hw6 hb6 hc6 hst HP5 HB5

  have hst0 : ∀ m : Go.Reg.In (fun x => x = w6.drew), m.w.cell? ⟨st, 0, none⟩ = some (.int .i64 D.reads) := fun m => by rw [m.h]; exact cell_blk (show w6.drew.heap[st]? = _ from ST0.out)
  refine Go.Reg.region (fun x => x = w6.drew) [.s, .s, .s, .s, .s, .s, .x] (by kernel_rfl) (by kernel_rfl) rfl (fun ne => ?_)
  refine Go.Reg.lex_q 6 _ _ _ _ (by rfl) ?_; simp only [List.take_succ_cons, List.take_zero, List.drop_succ_cons, List.drop_zero]; (repeat (go_big_quiet_step (rfl))); refine wpQuiet_nil ?_
  refine Go.Reg.step_x (by rfl) (fun K hK => ?_)
  clear hst0
  go_wp2_with fail
  refine (store_at _ db' 4 0 D.reads (cell_blk (show w6.drew.heap[db']? = _ from DP0.out.cells)) (frozen_blk (show w6.drew.heap[db']? = _ from DP0.out.cells))).mono ?_
  rintro e w7 ⟨⟨vst0, rfl⟩, hww7⟩
  have ST1 := Aside0.mk (show w7.heap[st]? = some (.cells #[.int .i64 D.reads, .int .i64 D.writes, .int .i64 D.flushes] 51 (0, 0)) by
    rw [hww7, Below.heap_setCell _ _ _ _ HNE.out]; exact ST0.out)
  have DP1 := Aside0.mk (show PDx w7 w.heap.size db' sb' { D with reads := D.reads, writes := 0, flushes := 0 } (.slice A3 D.waits.length c3) cap sp' by
    rw [hww7]
    exact PDx.put (PDx.below DP0.out (below_drew1 (Below.refl _ _))) 4 (.int .i64 D.reads) (cnt_ok HOK.out rfl rfl rfl) rfl rfl rfl)
  have BB1 := Aside0.mk (show Below w.heap.size w w7 by rw [hww7]; exact (below_drew1 BB0.out).setCell (p := ⟨db', 4, none⟩) HDB.out _)
  clear hww7 ST0 DP0 BB0
  go_wp2_with fail
  refine hK.out _ _ ?_
  clear hK K
  refine Go.Reg.lex_nil ?_
  go_wp2_with fail

  have hst1 : ∀ m : Go.Reg.In (fun x => x = w7.drew), m.w.cell? ⟨st, 1, none⟩ = some (.int .i64 D.writes) := fun m => by rw [m.h]; exact cell_blk (show w7.drew.heap[st]? = _ from ST1.out)
  refine Go.Reg.region (fun x => x = w7.drew) [.s, .s, .s, .s, .s, .s, .x] (by kernel_rfl) (by kernel_rfl) rfl (fun ne => ?_)
  refine Go.Reg.lex_q 6 _ _ _ _ (by rfl) ?_; simp only [List.take_succ_cons, List.take_zero, List.drop_succ_cons, List.drop_zero]; (repeat (go_big_quiet_step (rfl))); refine wpQuiet_nil ?_
  refine Go.Reg.step_x (by rfl) (fun K hK => ?_)
  clear hst1
  go_wp2_with fail
  refine (store_at _ db' 5 0 D.writes (cell_blk (show w7.drew.heap[db']? = _ from DP1.out.cells)) (frozen_blk (show w7.drew.heap[db']? = _ from DP1.out.cells))).mono ?_
  rintro e w8 ⟨⟨vst1, rfl⟩, hww8⟩
  have ST2 := Aside0.mk (show w8.heap[st]? = some (.cells #[.int .i64 D.reads, .int .i64 D.writes, .int .i64 D.flushes] 51 (0, 0)) by
    rw [hww8, Below.heap_setCell _ _ _ _ HNE.out]; exact ST1.out)
  have DP2 := Aside0.mk (show PDx w8 w.heap.size db' sb' { D with reads := D.reads, writes := D.writes, flushes := 0 } (.slice A3 D.waits.length c3) cap sp' by
    rw [hww8]
    exact PDx.put (PDx.below DP1.out (below_drew1 (Below.refl _ _))) 5 (.int .i64 D.writes) (cnt_ok HOK.out rfl rfl rfl) rfl rfl rfl)
  have BB2 := Aside0.mk (show Below w.heap.size w w8 by rw [hww8]; exact (below_drew1 BB1.out).setCell (p := ⟨db', 5, none⟩) HDB.out _)
  clear hww8 ST1 DP1 BB1
  go_wp2_with fail
  refine hK.out _ _ ?_
  clear hK K
  refine Go.Reg.lex_nil ?_
  go_wp2_with fail

  have hst2 : ∀ m : Go.Reg.In (fun x => x = w8.drew), m.w.cell? ⟨st, 2, none⟩ = some (.int .i64 D.flushes) := fun m => by rw [m.h]; exact cell_blk (show w8.drew.heap[st]? = _ from ST2.out)
  refine Go.Reg.region (fun x => x = w8.drew) [.s, .s, .s, .s, .s, .s, .x] (by kernel_rfl) (by kernel_rfl) rfl (fun ne => ?_)
  refine Go.Reg.lex_q 6 _ _ _ _ (by rfl) ?_; simp only [List.take_succ_cons, List.take_zero, List.drop_succ_cons, List.drop_zero]; (repeat (go_big_quiet_step (rfl))); refine wpQuiet_nil ?_
  refine Go.Reg.step_x (by rfl) (fun K hK => ?_)
  clear hst2
  go_wp2_with fail
  refine (store_at _ db' 6 0 D.flushes (cell_blk (show w8.drew.heap[db']? = _ from DP2.out.cells)) (frozen_blk (show w8.drew.heap[db']? = _ from DP2.out.cells))).mono ?_
  rintro e w9 ⟨⟨vst2, rfl⟩, hww9⟩
  have ST3 := Aside0.mk (show w9.heap[st]? = some (.cells #[.int .i64 D.reads, .int .i64 D.writes, .int .i64 D.flushes] 51 (0, 0)) by
    rw [hww9, Below.heap_setCell _ _ _ _ HNE.out]; exact ST2.out)
  have DP3 := Aside0.mk (show PDx w9 w.heap.size db' sb' D (.slice A3 D.waits.length c3) cap sp' by
    rw [hww9]
    exact PDx.put (PDx.below DP2.out (below_drew1 (Below.refl _ _))) 6 (.int .i64 D.flushes) (cnt_ok HOK.out rfl rfl rfl) rfl rfl rfl)
  have BB3 := Aside0.mk (show Below w.heap.size w w9 by rw [hww9]; exact (below_drew1 BB2.out).setCell (p := ⟨db', 6, none⟩) HDB.out _)
  clear hww9 ST2 DP2 BB2
  go_wp2_with fail
  refine hK.out _ _ ?_
  clear hK K
  refine Go.Reg.lex_nil ?_
  go_wp2_with fail
  go_ret
  exact ⟨db', sb', rfl, ⟨_, _, _, DP3.out⟩, BB3.out⟩
end Disk
end Go.Proofs.Ytooemgcijbdilaa
namespace Go.Proofs.Ytooemgcijbdilaa
set_option linter.unusedVariables false
set_option linter.unusedSimpArgs false
open Go.RowKit Go.Proofs.YtooemgcijbdilaaW.PrintWords Go.Proofs.YtooemgcijbdilaaW.PrintLast Go.Proofs.YtooemgcijbdilaaW.PrintMore
namespace Disk
open Go.Disk PDiskDoes

set_option maxHeartbeats 8000000 in
set_option maxRecDepth 100000 in
theorem xclone_any {w0 w : World} {base sb xb sb' : Nat} {D : Dk} (h : RD w0 base sb xb D) (hb0 : Below w0.heap.size w0 w) (hsb : w0.heap.size ≤ sb') (hsl : sb' < w.heap.size) (hfew : D.waits.length ≤ 1000000) :
    Calls Try.prog 26 #[.pointer (some ⟨xb, 0, none⟩)] w fun e w' => ∃ xb', e = .returned (.pointer (some ⟨xb', 0, none⟩)) ∧ RD w' w.heap.size sb' xb' D ∧ Below w.heap.size w w' := by
  obtain ⟨vs, vw, hx0⟩ := h
  have HSB := Aside0.mk hsb
  have HSL := Aside0.mk hsl
  have HS0 := Aside0.mk (Kd.R_below (Kd.R_bound hx0.safe) hb0)
  have HW0 := Aside0.mk (Kd.R_below (Kd.R_bound hx0.waits) hb0)
  obtain ⟨A0, c0, rfl⟩ := Kd.R_slice hx0.safe
  obtain ⟨A1, c1, rfl⟩ := Kd.R_slice hx0.waits
  have hx := hx0.below hb0
  have HX := Aside0.mk hx
  have HXL := Aside0.mk (blk_lt hx.cells)
  have HFEW := Aside0.mk (show D.waits.length ≤ 1000000 ∧ D.safe.length ≤ 1024 from ⟨hfew, hx.ok.few.2⟩)
  have hxl : xb < w.heap.size := blk_lt hx.cells
  have hm2 : ∀ m : Go.Reg.In (Below w.heap.size w), m.w.cell? ⟨xb, 2, none⟩ = some (.int .i64 D.left) := fun m => by rw [m.h.cell hxl]; exact cell_blk hx.cells
  have hm3 : ∀ m : Go.Reg.In (Below w.heap.size w), m.w.cell? ⟨xb, 3, none⟩ = some (.bool D.off) := fun m => by rw [m.h.cell hxl]; exact cell_blk hx.cells
  have hm4 : ∀ m : Go.Reg.In (Below w.heap.size w), m.w.cell? ⟨xb, 4, none⟩ = some (.int .i64 D.reads) := fun m => by rw [m.h.cell hxl]; exact cell_blk hx.cells
  have hm5 : ∀ m : Go.Reg.In (Below w.heap.size w), m.w.cell? ⟨xb, 5, none⟩ = some (.int .i64 D.writes) := fun m => by rw [m.h.cell hxl]; exact cell_blk hx.cells
  have hm6 : ∀ m : Go.Reg.In (Below w.heap.size w), m.w.cell? ⟨xb, 6, none⟩ = some (.int .i64 D.flushes) := fun m => by rw [m.h.cell hxl]; exact cell_blk hx.cells
  clear hx hx0 hb0 hsb hsl hfew
  go_enter Try.func26, Try.ntmps26
  go_wp2_with fail
  refine Go.Reg.region (Below w.heap.size w) [.s, .s, .s, .s, .s, .s, .s, .s, .s, .s, .s, .s, .s, .w, .s] (by kernel_rfl) (by kernel_rfl) (below_drew1 (Below.refl _ _)) (fun ne => ?_)
  refine Go.Reg.lex_q 13 _ _ _ _ (by rfl) ?_; simp only [List.take_succ_cons, List.take_zero, List.drop_succ_cons, List.drop_zero]; (repeat (go_big_quiet_step (rfl))); refine wpQuiet_nil ?_
  refine Go.Reg.step_w (fun K hK => ?_)
  clear hm2 hm3 hm4 hm5 hm6
  go_wp2_with fail
  have HB1 := Aside0.mk (below_drew1 (Below.refl w.heap.size w))
  refine hK.out _ _ (HB1.out.alloc HB1.out.size _) ?_
  clear hK K
  refine Go.Reg.lex_q 1 _ _ _ _ (by rfl) ?_; simp only [List.take_succ_cons, List.take_zero, List.drop_succ_cons, List.drop_zero]; (repeat (go_big_quiet_step (rfl))); refine wpQuiet_nil ?_
  refine Go.Reg.lex_nil ?_
  obtain ⟨w2, hw2⟩ : ∃ w2, w2 = (w.alloc (.cells #[.slice none 0 0, .slice none 0 0, .int .i64 D.left, .bool D.off, .int .i64 D.reads, .int .i64 D.writes, .int .i64 D.flushes] 55)).drew := ⟨_, rfl⟩
  have hc2 : w2.heap[w.heap.size]? = some (.cells #[.slice none 0 0, .slice none 0 0, .int .i64 D.left, .bool D.off, .int .i64 D.reads, .int .i64 D.writes, .int .i64 D.flushes] 55 (0, 0)) := by rw [hw2]; exact heap_alloc_new w _
  have OB0 := Aside0.mk (show Below w.heap.size w w2 by rw [hw2]; exact below_drew1 ((Below.refl _ _).alloc (Nat.le_refl _) _))
  rw [← hw2]
  obtain ⟨xb', hxb'⟩ : ∃ xb', xb' = w.heap.size := ⟨_, rfl⟩
  rw [← hxb'] at hc2 ⊢
  have XC0 := Aside0.mk hc2
  have HXB := Aside0.mk (show w.heap.size ≤ xb' by omega)
  have HOK := Aside0.mk HX.out.ok
  clear hw2 hc2 hxb' HB1
  go_wp2_with fail

  have hm0 : ∀ m : Go.Reg.In (fun x => x = w2.drew), m.w.cell? ⟨xb', 0, none⟩ = some (.slice none 0 0) := fun m => by rw [m.h]; exact cell_blk (show w2.drew.heap[xb']? = _ from XC0.out)
  have hm1 : ∀ m : Go.Reg.In (fun x => x = w2.drew), m.w.cell? ⟨xb, 0, none⟩ = some (.slice A0 D.safe.length c0) := fun m => by rw [m.h]; exact cell_blk (show w2.drew.heap[xb]? = _ from (OB0.out.block xb HXL.out).trans HX.out.cells)
  refine Go.Reg.region (fun x => x = w2.drew) [.p, .s, .s, .s, .s, .s, .s, .s, .s, .x, .p, .p, .x] (by kernel_rfl) (by kernel_rfl) rfl (fun ne => ?_)
  refine Go.Reg.lex_qp 1 _ _ _ _ _ (by rfl) ?_; simp only [List.take_succ_cons, List.take_zero, List.drop_succ_cons, List.drop_zero]; (repeat (go_big_quiet_step (rfl))); refine wpQuiet_nil ?_
  refine Go.Reg.lex_q 8 _ _ _ _ (by rfl) ?_; simp only [List.take_succ_cons, List.take_zero, List.drop_succ_cons, List.drop_zero]; (repeat (go_big_quiet_step (rfl))); refine wpQuiet_nil ?_
  refine Go.Reg.step_x (by rfl) (fun K hK => ?_)
  clear hm0 hm1
  have hob0 : Below w.heap.size w w2.drew := below_drew1 OB0.out
  obtain ⟨A9, c9, e9, _, hrow⟩ := OwnRow.reads (Kd.R_below HS0.out hob0).2
  cases e9
  refine Kd.R_append_rows kB (w0 := w2.drew) 0 rfl (.tmp 22) (.tmp 26) 22 30 (.slice none 0 0) 24 rfl Try.underlying22 infoB rfl (by decide) (by omega) (.slice none 0 0) [] D.safe A0 _ c0 (fun k => k ≠ sb') (fun k => k ≠ sb') rfl rfl (Kd.R_nil _ _ _ _ _) hrow (fun x cs h => kB.M_mono (fun k hk => by have := hk.1.2.2.1; have := HSB.out; omega) h) ?aK ?aF (Below.refl _ _) (Nat.zero_le _) ?aL ?_
  case aK => exact fun k hk => ⟨hk, by simp [Value.ownBlock]⟩
  case aF => exact fun k hk => by have := OB0.out.size; have := HSL.out; have : w2.drew.heap.size = w2.heap.size := rfl; omega
  case aL => have := HFEW.out; simp; omega
  intro v9 w3 ho _ hg hat
  obtain ⟨AA0, cc0, rfl⟩ := Kd.R_slice ho
  rw [List.nil_append] at ho ⊢
  have hb0 : Below w2.drew.heap.size w2.drew w3 := pw_below_grown (Below.refl _ _) _ (Nat.le_refl _) hg (fun k hk => by simp [Value.ownBlock] at hk)
  have HO9 := Aside0.mk ho
  have HAT := Aside0.mk (show ∀ k, (Value.slice AA0 D.safe.length cc0).ownBlock = some k → w.heap.size ≤ k from fun k hk => by
    rw [List.nil_append] at hat
    rcases hat with h | ⟨b, h1, h2⟩
    · rw [hk] at h; simp [Value.ownBlock] at h
    · rw [hk] at h1; cases h1; exact Nat.le_trans OB0.out.size h2)
  have HB9 := Aside0.mk hb0
  have HX9 := Aside0.mk ((hb0.block xb' (show xb' < w2.heap.size from blk_lt XC0.out)).trans (show w2.drew.heap[xb']? = _ from XC0.out))
  clear ho hg hat hb0 hrow hob0
  have d9 : w3.cell? ⟨xb', 0, none⟩ = some (.slice none 0 0) := cell_blk HX9.out
  have g9 : w3.frozen? ⟨xb', 0, none⟩ = false := frozen_blk HX9.out
  refine hK.out _ _ ?_
  clear hK K
  try simp only [Act.put, List.setIfInBounds_toArray, List.set_cons_succ, List.set_cons_zero]
  refine Go.Reg.lex_qp 2 _ _ _ _ _ (by rfl) ?_; simp only [List.take_succ_cons, List.take_zero, List.drop_succ_cons, List.drop_zero]; (repeat (go_big_quiet_step (rfl))); refine wpQuiet_nil ?_
  refine Go.Reg.step_x (by rfl) (fun K hK => ?_)
  go_wp2_with fail
  refine hK.out _ _ ?_
  clear hK K
  refine Go.Reg.lex_nil ?_
  have hset := blk_set HX9.out 0 (.slice AA0 D.safe.length cc0)
  obtain ⟨w4, hww4⟩ : ∃ w4, w4 = w3.setCell ⟨xb', 0, none⟩ (.slice AA0 D.safe.length cc0) := ⟨_, rfl⟩
  rw [← hww4] at hset ⊢
  have XC1 := Aside0.mk hset
  have OB1 := Aside0.mk (show Below w.heap.size w w4 by rw [hww4]; exact ((below_drew1 OB0.out).trans (HB9.out.mono OB0.out.size)).setCell (p := ⟨xb', 0, none⟩) HXB.out _)
  have HR0 := Aside0.mk (show Kd.R kB 30 w4 0 (fun k => k ≠ sb') (.slice AA0 D.safe.length cc0) D.safe by rw [hww4]; exact Kd.R_set HO9.out HX9.out (by decide) 0 _)
  have HAT0 := Aside0.mk HAT.out
  
  
  clear hww4 hset d9 g9 HO9 HB9 HX9 HAT
  go_wp2_with fail

  have hm0 : ∀ m : Go.Reg.In (fun x => x = w4.drew), m.w.cell? ⟨xb', 1, none⟩ = some (.slice none 0 0) := fun m => by rw [m.h]; exact cell_blk (show w4.drew.heap[xb']? = _ from XC1.out)
  have hm1 : ∀ m : Go.Reg.In (fun x => x = w4.drew), m.w.cell? ⟨xb, 1, none⟩ = some (.slice A1 D.waits.length c1) := fun m => by rw [m.h]; exact cell_blk (show w4.drew.heap[xb]? = _ from (OB1.out.block xb HXL.out).trans HX.out.cells)
  refine Go.Reg.region (fun x => x = w4.drew) [.p, .s, .s, .s, .s, .s, .s, .s, .s, .x, .p, .p, .x] (by kernel_rfl) (by kernel_rfl) rfl (fun ne => ?_)
  refine Go.Reg.lex_qp 1 _ _ _ _ _ (by rfl) ?_; simp only [List.take_succ_cons, List.take_zero, List.drop_succ_cons, List.drop_zero]; (repeat (go_big_quiet_step (rfl))); refine wpQuiet_nil ?_
  refine Go.Reg.lex_q 8 _ _ _ _ (by rfl) ?_; simp only [List.take_succ_cons, List.take_zero, List.drop_succ_cons, List.drop_zero]; (repeat (go_big_quiet_step (rfl))); refine wpQuiet_nil ?_
  refine Go.Reg.step_x (by rfl) (fun K hK => ?_)
  clear hm0 hm1
  have hob1 : Below w.heap.size w w4.drew := below_drew1 OB1.out
  obtain ⟨A9, c9, e9, _, hrow⟩ := OwnRow.reads (Kd.R_below HW0.out hob1).2
  cases e9
  refine Kd.R_append_rows kW (w0 := w4.drew) 0 rfl (.tmp 34) (.tmp 38) 53 93 (.agg #[.int .i64 0, .slice none 0 0]) 32 rfl Try.underlying53 infoX rfl (by decide) (by omega) (.slice none 0 0) [] D.waits A1 _ c1 (fun k => k ≠ sb') (fun k => k ≠ sb') rfl rfl (Kd.R_nil _ _ _ _ _) hrow (fun x cs h => kW.M_mono (fun k hk => by have := hk.1.2.2.1; have := HSB.out; omega) h) ?aK ?aF (Below.refl _ _) (Nat.zero_le _) ?aL ?_
  case aK => exact fun k hk => ⟨hk, by simp [Value.ownBlock]⟩
  case aF => exact fun k hk => by have := OB1.out.size; have := HSL.out; have : w4.drew.heap.size = w4.heap.size := rfl; omega
  case aL => have := HFEW.out; simp; omega
  intro v9 w5 ho _ hg hat
  obtain ⟨AA1, cc1, rfl⟩ := Kd.R_slice ho
  rw [List.nil_append] at ho ⊢
  have hb1 : Below w4.drew.heap.size w4.drew w5 := pw_below_grown (Below.refl _ _) _ (Nat.le_refl _) hg (fun k hk => by simp [Value.ownBlock] at hk)
  have HO9 := Aside0.mk ho
  have HAT := Aside0.mk (show ∀ k, (Value.slice AA1 D.waits.length cc1).ownBlock = some k → w.heap.size ≤ k from fun k hk => by
    rw [List.nil_append] at hat
    rcases hat with h | ⟨b, h1, h2⟩
    · rw [hk] at h; simp [Value.ownBlock] at h
    · rw [hk] at h1; cases h1; exact Nat.le_trans OB1.out.size h2)
  have HB9 := Aside0.mk hb1
  have HX9 := Aside0.mk ((hb1.block xb' (show xb' < w4.heap.size from blk_lt XC1.out)).trans (show w4.drew.heap[xb']? = _ from XC1.out))
  clear ho hg hat hb1 hrow hob1
  have d9 : w5.cell? ⟨xb', 1, none⟩ = some (.slice none 0 0) := cell_blk HX9.out
  have g9 : w5.frozen? ⟨xb', 1, none⟩ = false := frozen_blk HX9.out
  refine hK.out _ _ ?_
  clear hK K
  try simp only [Act.put, List.setIfInBounds_toArray, List.set_cons_succ, List.set_cons_zero]
  refine Go.Reg.lex_qp 2 _ _ _ _ _ (by rfl) ?_; simp only [List.take_succ_cons, List.take_zero, List.drop_succ_cons, List.drop_zero]; (repeat (go_big_quiet_step (rfl))); refine wpQuiet_nil ?_
  refine Go.Reg.step_x (by rfl) (fun K hK => ?_)
  go_wp2_with fail
  refine hK.out _ _ ?_
  clear hK K
  refine Go.Reg.lex_nil ?_
  have hset := blk_set HX9.out 1 (.slice AA1 D.waits.length cc1)
  obtain ⟨w6, hww6⟩ : ∃ w6, w6 = w5.setCell ⟨xb', 1, none⟩ (.slice AA1 D.waits.length cc1) := ⟨_, rfl⟩
  rw [← hww6] at hset ⊢
  have XC2 := Aside0.mk hset
  have OB2 := Aside0.mk (show Below w.heap.size w w6 by rw [hww6]; exact ((below_drew1 OB1.out).trans (HB9.out.mono OB1.out.size)).setCell (p := ⟨xb', 1, none⟩) HXB.out _)
  have HR1 := Aside0.mk (show Kd.R kW 93 w6 0 (fun k => k ≠ sb') (.slice AA1 D.waits.length cc1) D.waits by rw [hww6]; exact Kd.R_set HO9.out HX9.out (by decide) 1 _)
  have HAT1 := Aside0.mk HAT.out
  have HRA := Aside0.mk (Kd.R_set (Kd.R_below HR0.out (below_drew1 (Below.refl w4.heap.size w4) |>.trans HB9.out)) HX9.out (by decide) 1 (.slice AA1 D.waits.length cc1))
  rw [← hww6] at HRA
  clear hww6 hset d9 g9 HO9 HB9 HX9 HAT
  go_wp2_with fail
  go_ret
  exact ⟨xb', rfl, ⟨_, _, HOK.out, HXB.out, Nat.lt_of_lt_of_le HSL.out OB2.out.size, HAT0.out, HAT1.out, XC2.out, HRA.out, HR1.out⟩, OB2.out⟩
end Disk
end Go.Proofs.Ytooemgcijbdilaa
namespace Go.Proofs.Ytooemgcijbdilaa
set_option linter.unusedVariables false
set_option linter.unusedSimpArgs false
open Go.RowKit Go.Proofs.YtooemgcijbdilaaW.PrintWords Go.Proofs.YtooemgcijbdilaaW.PrintLast Go.Proofs.YtooemgcijbdilaaW.PrintMore
namespace Disk
open Go.Disk PDiskDoes

abbrev FB (base db sb xb : Nat) (w w' : World) : Prop := Fr (fun k => k = db ∨ k = sb ∨ k = xb) (fun k t => base ≤ k ∧ (t = 77 ∨ t = 30 ∨ t = 93)) w w'
theorem FB.of_fp {base db sb xb : Nat} {w w' : World} (f : FP base db sb w w') : FB base db sb xb w w' := f.mono (fun k h => by rcases h with h | h; exact .inl h; exact .inr (.inl h)) (fun k t h => ⟨h.1, .inl h.2⟩)
theorem FB.of_fx {base db sb xb : Nat} {w w' : World} (f : FX base xb w w') : FB base db sb xb w w' := f.mono (fun k h => .inr (.inr h)) (fun k t h => ⟨h.1, .inr h.2⟩)
theorem FB.of_below {base db sb xb : Nat} {w w' : World} (f : Below w.heap.size w w') : FB base db sb xb w w' := Fr.of_below f
theorem FB.below {base db sb xb : Nat} {w w' : World} (f : FB base db sb xb w w') (hd : base ≤ db) (hs : base ≤ sb) (hx : base ≤ xb) (hw : base ≤ w.heap.size) : Below base w w' := ⟨f.os, f.tape, f.output, f.size, fun k hk => f.block k (by omega) (by rintro (h | h | h) <;> omega) (fun _ _ _ _ h => by omega)⟩
theorem R_fr {α : Type} {d : Kd α} {e : Nat} {w w' : World} {base : Nat} {ok bs : Nat → Prop} {ts : Nat → Nat → Prop} {v : Value} {xs : List α} (h : d.R e w base ok v xs) (f : Fr bs ts w w') (hb : ∀ k, ok k → base ≤ k → ¬ bs k) (ht : ∀ q, q ∈ e :: d.E → ∀ k, ¬ ts k q) : d.R e w' base ok v xs :=
  Kd.R_mono (Kd.R_step (Kd.R_bound h) (fun k hk hlt => by
    obtain ⟨ho, hb', _, q, hq, cells, hc⟩ := hk
    exact f.block k hlt (hb k ho hb') (fun c t fz hc' => by rw [hc] at hc'; cases hc'; exact fun h => ht q hq k h))) (fun _ hk => hk.1)
theorem u8_fb {w w' : World} {base base' db sb xb : Nat} {ok : Nat → Prop} {v : Value} {xs : List Int} (h : Kd.R (Kd.int .u8) 5 w base' ok v xs) (f : FB base db sb xb w w') (hd : db < base') (hs : sb < base') (hx : xb < base') : Kd.R (Kd.int .u8) 5 w' base' ok v xs := by
  refine R_fr h f (fun k _ hk h => ?_) (fun q hq k h => ?_)
  · rcases h with h | h | h <;> omega
  · have hq' : q ∈ [5] := hq
    rw [List.mem_singleton] at hq'
    subst hq'
    rcases h with ⟨_, h | h | h⟩ <;> exact absurd h (by decide)
/-- Both disks. -/
structure Both (w : World) (base db sb xb : Nat) (D : Dk) : Prop where
  pd : PD w base db sb D
  rd : RD w base sb xb D
  bs : base ≤ w.heap.size
theorem Both.low {w : World} {base db sb xb : Nat} {D : Dk} (h : Both w base db sb xb D) : base ≤ db ∧ base ≤ sb ∧ base ≤ xb := by
  obtain ⟨⟨_, _, _, p⟩, ⟨_, _, r⟩, _⟩ := h
  exact ⟨p.dbase, p.sbase, r.xbase⟩
theorem Both.lt {w : World} {base db sb xb : Nat} {D : Dk} (h : Both w base db sb xb D) : db < w.heap.size ∧ sb < w.heap.size ∧ xb < w.heap.size := by
  obtain ⟨⟨_, _, _, p⟩, ⟨_, _, r⟩, _⟩ := h
  exact ⟨blk_lt p.cells, blk_lt p.safe, blk_lt r.cells⟩
theorem Both.below {w w' : World} {base db sb xb : Nat} {D : Dk} (h : Both w base db sb xb D) (b : Below w.heap.size w w') : Both w' base db sb xb D := ⟨h.pd.below b, h.rd.below b, Nat.le_trans h.bs b.size⟩
theorem Both.ok {w : World} {base db sb xb : Nat} {D : Dk} (h : Both w base db sb xb D) : Ok D := h.pd.ok
/-- The program's disk is turned: the document's stays. -/
theorem Both.fp {w w' : World} {base db sb xb : Nat} {D : Dk} (h : Both w base db sb xb D) (f : FP base db sb w w') : RD w' base sb xb D := by
  obtain ⟨⟨_, _, _, p⟩, ⟨vs, vw, r⟩, _⟩ := h
  exact ⟨vs, vw, r.fp p.cells p.safe f⟩
/-- The document's disk is turned: the program's stays. -/
theorem PD.fx {w w' : World} {base db sb xb : Nat} {D D' : Dk} (p : PD w base db sb D) (r : RD w base sb xb D') (f : FX base xb w w') : PD w' base db sb D := by
  obtain ⟨_, _, _, p⟩ := p
  obtain ⟨vs, vw, r⟩ := r
  exact ⟨_, _, _, p.fx r.cells f⟩
def dat (odd : Bool) (bs : List Int) : List Int := if odd then bs else blockOf bs
theorem dat_mem (odd : Bool) (bs : List Int) (h : ∀ x ∈ bs, 0 ≤ x ∧ x ≤ 255) : ∀ x ∈ dat odd bs, 0 ≤ x ∧ x ≤ 255 := by
  unfold dat
  split
  · exact h
  · exact block_mem bs h
def flushF (D : Dk) : Dk := if ready D 0 ≠ 0 then D else if D.left = 0 then deedD D else flushD (deedD D)
def doD (D : Dk) (K N : Int) (bs : List Int) (odd : Bool) (ms : List Int) : Dk :=
  if K = 1 then (if ready D N = 0 then readD D else D)
  else if K = 2 then (writeD D N (dat odd bs)).1
  else if K = 3 then flushF D
  else if K = 4 then (if N < 0 then D else stopD D N)
  else if K = 5 then crashD D ms
  else D
theorem nil_string (W : World) : (convert 30 9 (.slice none 0 0)).run Try.prog W = .ok (.string (strOfNums [])) W :=
  Kd.C_string (xs := []) Try.underlying30 Try.underlying5 Try.underlying9 ⟨rfl, by decide, fun h => absurd h (by decide)⟩
set_option maxHeartbeats 8000000 in
set_option maxRecDepth 100000 in
theorem do_read {w : World} {base db sb xb : Nat} {D : Dk} (h : Both w base db sb xb D) (N : Int) (A : Option Addr) (l c : Nat) (odd : Bool) (AM : Option Addr) (lm cm : Nat) (hfew : D.waits.length ≤ 1000000) :
    Calls Try.prog 16 #[.pointer (some ⟨db, 0, none⟩), .pointer (some ⟨xb, 0, none⟩), .agg #[.int .i64 1, .int .i64 N, .slice A l c, .bool odd, .slice AM lm cm]] w fun e w' => e = .returned (.bool true) ∧ Both w' base db sb xb (if ready D N = 0 then readD D else D) ∧ FB base db sb xb w w' ∧ w.heap.size < w'.heap.size := by
  have hal : Below w.heap.size w (w.alloc (.cells #[.int .i64 1, .int .i64 N, .slice A l c, .bool odd, .slice AM lm cm] 45)) := (Below.refl _ _).alloc (Nat.le_refl _) _
  obtain ⟨W, hW⟩ : ∃ W, W = w.alloc (.cells #[.int .i64 1, .int .i64 N, .slice A l c, .bool odd, .slice AM lm cm] 45) := ⟨_, rfl⟩
  have HP := Aside0.mk (h.below hal)
  have HF0 := Aside0.mk (show FB base db sb xb w W by rw [hW]; exact FB.of_below hal)
  have HWE := Aside0.mk hW
  have HGT := Aside0.mk (show w.heap.size < W.heap.size by rw [hW]; simp)
  have HBX := Aside0.mk (show W.heap[w.heap.size]? = some (.cells #[.int .i64 1, .int .i64 N, .slice A l c, .bool odd, .slice AM lm cm] 45 (0, 0)) by rw [hW]; exact heap_alloc_new w _)
  have HLT := Aside0.mk h.lt
  clear h hal
  rw [← hW] at HP
  by_cases hr : ready D N = 0
  · rw [if_pos hr]
    have HR := Aside0.mk hr
    clear hr hW
    go_enter Try.func16, Try.ntmps16
    go_wp2_with fail
    rw [← HWE.out]
    refine (read_yes HP.out.pd N HR.out (by omega)).mono ?_
    rintro e w2 ⟨v, rfl, hrv, p2, f2⟩
    have HRV := Aside0.mk hrv
    have HP2 := Aside0.mk p2
    have HX2 := Aside0.mk (HP.out.fp f2)
    have HF2 := Aside0.mk f2
    have cb : w2.heap[w.heap.size]? = _ := (f2.block _ (blk_lt HBX.out) (by rintro (h | h) <;> (have := HLT.out; omega)) (fun c t fz hc' => by rw [HBX.out] at hc'; cases hc'; exact fun h => absurd h.2 (by decide))).trans HBX.out
    have c1 : w2.cell? ⟨w.heap.size, 1, none⟩ = some (.int .i64 N) := cell_blk cb
    clear hrv p2 f2
    go_wp2_with fail
    refine (xread_yes HX2.out N HR.out hfew).mono ?_
    rintro e w3 ⟨v3, rfl, hrv3, p3, f3⟩
    have HF3 := Aside0.mk f3
    have HP3 := Aside0.mk (PD.fx HP2.out HX2.out f3)
    have HX3 := Aside0.mk p3
    have HRV2 := Aside0.mk (u8_fb HRV.out (FB.of_fx (db := db) (sb := sb) f3) (by have := HLT.out; have := HF0.out.size; omega) (by have := HLT.out; have := HF0.out.size; omega) (by have := HLT.out; have := HF0.out.size; omega))
    have HRV3 := Aside0.mk hrv3
    clear hrv3 p3 f3 c1 cb
    obtain ⟨A2, c2, rfl⟩ := Kd.R_slice HRV2.out
    obtain ⟨A3, c3, rfl⟩ := Kd.R_slice HRV3.out
    have s2 : (convert 30 9 (.slice A2 (nowD D N).length c2)).run Try.prog w3 = _ := Kd.C_string Try.underlying30 Try.underlying5 Try.underlying9 (row_at HRV2.out)
    have s3 : (convert 30 9 (.slice A3 (nowD D N).length c3)).run Try.prog w3 = _ := Kd.C_string Try.underlying30 Try.underlying5 Try.underlying9 (row_at HRV3.out)
    obtain ⟨T, hT⟩ : ∃ T, T = strOfNums (nowD D N) := ⟨_, rfl⟩
    rw [← hT] at s2 s3
    clear hT
    go_wp2_with fail
    go_ret
    exact ⟨rfl, ⟨HP3.out, HX3.out, Nat.le_trans HP.out.bs (Nat.le_trans HF2.out.size HF3.out.size)⟩, HF0.out.trans ((FB.of_fp HF2.out).trans (FB.of_fx HF3.out)), Nat.lt_of_lt_of_le HGT.out (Fr.size ((FB.of_fp HF2.out).trans (FB.of_fx HF3.out)))⟩
  · rw [if_neg hr]
    have HR := Aside0.mk hr
    clear hr hW
    go_enter Try.func16, Try.ntmps16
    go_wp2_with fail
    rw [← HWE.out]
    refine (read_no HP.out.pd N HR.out).mono ?_
    rintro e w2 ⟨rfl, rfl⟩
    have c1 : w2.cell? ⟨w.heap.size, 1, none⟩ = some (.int .i64 N) := cell_blk HBX.out
    obtain ⟨r, hr⟩ : ∃ r, r = ready D N := ⟨_, rfl⟩
    rw [← hr]
    go_wp2_with fail
    refine (xread_no HP.out.rd N HR.out).mono ?_
    rintro e w3 ⟨rfl, rfl⟩
    rw [← hr]
    have s2 := nil_string w3
    obtain ⟨T, hT⟩ : ∃ T, T = strOfNums [] := ⟨_, rfl⟩
    rw [← hT] at s2
    clear hT hr c1
    go_wp2_with fail
    go_ret
    exact ⟨rfl, HP.out, HF0.out, HGT.out⟩
set_option maxHeartbeats 8000000 in
set_option maxRecDepth 100000 in
theorem data_any {w : World} {base : Nat} (K N : Int) (A : Option Addr) (bs : List Int) (c : Nat) (odd : Bool) (AM : Option Addr) (lm cm : Nat) (hC : ∀ x, Below base w x → Kd.C (Kd.int .u8) x A bs.length bs) (hc : bs.length ≤ c) (hb : base ≤ w.heap.size) :
    Calls Try.prog 39 #[.agg #[.int .i64 K, .int .i64 N, .slice A bs.length c, .bool odd, .slice AM lm cm]] w fun e w' => ∃ A' c', e = .returned (.slice A' (dat odd bs).length c') ∧ (∀ x, Below w'.heap.size w' x → Kd.C (Kd.int .u8) x A' (dat odd bs).length (dat odd bs)) ∧ Below w.heap.size w w' := by
  have HC := Aside0.mk hC
  clear hC
  cases odd with
  | true =>
    rw [show dat true bs = bs from rfl]
    go_enter Try.func39, Try.ntmps39
    go_wp2_with fail
    go_ret
    have hb1 : Below w.heap.size w (w.alloc (.cells #[.int .i64 K, .int .i64 N, .slice A bs.length c, .bool true, .slice AM lm cm] 45)) := (Below.refl _ _).alloc (Nat.le_refl _) _
    exact ⟨A, c, rfl, fun x hx => HC.out x ((hb1.mono hb).trans (hx.mono (Nat.le_trans hb hb1.size))), hb1⟩
  | false =>
    rw [show dat false bs = blockOf bs from rfl]
    go_enter Try.func39, Try.ntmps39
    go_wp2_with fail
    have hb1 : Below w.heap.size w (w.alloc (.cells #[.int .i64 K, .int .i64 N, .slice A bs.length c, .bool false, .slice AM lm cm] 45)) := (Below.refl _ _).alloc (Nat.le_refl _) _
    have HB1 := Aside0.mk hb1
    clear hb1
    refine (Block_any A c bs (HC.out _ (HB1.out.mono hb)) hc).mono ?_
    rintro e w2 ⟨a, c', rfl, hc', hr, b⟩
    have HR := Aside0.mk hr
    have HB2 := Aside0.mk (HB1.out.trans (b.mono HB1.out.size))
    clear hr b
    go_wp2_with fail
    go_ret
    refine ⟨some a, c', by rw [block_len]; rfl, fun x hx => ?_, HB2.out⟩
    have := row_at (Kd.R_below (show Kd.R (Kd.int .u8) 5 w2 _ _ (.slice (some a) 256 c') (blockOf bs) from HR.out) hx)
    exact this
set_option maxHeartbeats 8000000 in
set_option maxRecDepth 100000 in
theorem do_write_no {w : World} {base db sb xb : Nat} {D : Dk} (h : Both w base db sb xb D) (N : Int) (A : Option Addr) (bs : List Int) (c : Nat) (odd : Bool) (AM : Option Addr) (ms : List Int) (cm : Nat) (hC : ∀ x, Below base w x → Kd.C (Kd.int .u8) x A bs.length bs) (hc : bs.length ≤ c) (hby : ∀ x ∈ bs, 0 ≤ x ∧ x ≤ 255) (hfew : D.waits.length ≤ 1000000) (hr : ready D N ≠ 0) :
    Calls Try.prog 16 #[.pointer (some ⟨db, 0, none⟩), .pointer (some ⟨xb, 0, none⟩), .agg #[.int .i64 2, .int .i64 N, .slice A bs.length c, .bool odd, .slice AM ms.length cm]] w fun e w' => e = .returned (.bool true) ∧ Both w' base db sb xb D ∧ FB base db sb xb w w' ∧ w.heap.size < w'.heap.size := by
  have HC := Aside0.mk hC
  have HBY := Aside0.mk hby
  clear hC hby
  have HR := Aside0.mk hr
  clear hr
  obtain ⟨r, hrr⟩ : ∃ r, r = ready D N := ⟨_, rfl⟩
  have HRR := Aside0.mk hrr
  clear hrr
  have hal : Below w.heap.size w (w.alloc (.cells #[.int .i64 2, .int .i64 N, .slice A bs.length c, .bool odd, .slice AM ms.length cm] 45)) := (Below.refl _ _).alloc (Nat.le_refl _) _
  obtain ⟨W, hW⟩ : ∃ W, W = w.alloc (.cells #[.int .i64 2, .int .i64 N, .slice A bs.length c, .bool odd, .slice AM ms.length cm] 45) := ⟨_, rfl⟩
  have HP := Aside0.mk (h.below hal)
  have HAL := Aside0.mk (show Below w.heap.size w W by rw [hW]; exact hal)
  have HF0 := Aside0.mk (show FB base db sb xb w W by rw [hW]; exact FB.of_below hal)
  have HWE := Aside0.mk hW
  have HGT := Aside0.mk (show w.heap.size < W.heap.size by rw [hW]; simp)
  have HBX := Aside0.mk (show W.heap[w.heap.size]? = some (.cells #[.int .i64 2, .int .i64 N, .slice A bs.length c, .bool odd, .slice AM ms.length cm] 45 (0, 0)) by rw [hW]; exact heap_alloc_new w _)
  have HLT := Aside0.mk h.lt
  have HLOW := Aside0.mk h.low
  have HBS := Aside0.mk h.bs
  clear h hal
  rw [← hW] at HP
  have hm0 : ∀ m : Go.Reg.In (fun x : World => x.heap[w.heap.size]? = some (.cells #[.int .i64 2, .int .i64 N, .slice A bs.length c, .bool odd, .slice AM ms.length cm] 45 (0, 0))), m.w.cell? ⟨w.heap.size, 0, none⟩ = some (.int .i64 2) := fun m => cell_blk m.h
  have hm1 : ∀ m : Go.Reg.In (fun x : World => x.heap[w.heap.size]? = some (.cells #[.int .i64 2, .int .i64 N, .slice A bs.length c, .bool odd, .slice AM ms.length cm] 45 (0, 0))), m.w.cell? ⟨w.heap.size, 1, none⟩ = some (.int .i64 N) := fun m => cell_blk m.h
  have hm2 : ∀ m : Go.Reg.In (fun x : World => x.heap[w.heap.size]? = some (.cells #[.int .i64 2, .int .i64 N, .slice A bs.length c, .bool odd, .slice AM ms.length cm] 45 (0, 0))), m.w.cell? ⟨w.heap.size, 2, none⟩ = some (.slice A bs.length c) := fun m => cell_blk m.h
  have hm3 : ∀ m : Go.Reg.In (fun x : World => x.heap[w.heap.size]? = some (.cells #[.int .i64 2, .int .i64 N, .slice A bs.length c, .bool odd, .slice AM ms.length cm] 45 (0, 0))), m.w.cell? ⟨w.heap.size, 3, none⟩ = some (.bool odd) := fun m => cell_blk m.h
  have hm4 : ∀ m : Go.Reg.In (fun x : World => x.heap[w.heap.size]? = some (.cells #[.int .i64 2, .int .i64 N, .slice A bs.length c, .bool odd, .slice AM ms.length cm] 45 (0, 0))), m.w.cell? ⟨w.heap.size, 4, none⟩ = some (.slice AM ms.length cm) := fun m => cell_blk m.h
  have HKB := Aside0.mk (show ∀ x y : World, x.heap[w.heap.size]? = some (.cells #[.int .i64 2, .int .i64 N, .slice A bs.length c, .bool odd, .slice AM ms.length cm] 45 (0, 0)) → FB base db sb xb x y → y.heap[w.heap.size]? = some (.cells #[.int .i64 2, .int .i64 N, .slice A bs.length c, .bool odd, .slice AM ms.length cm] 45 (0, 0)) from fun x y hx f => (f.block _ (blk_lt hx) (by rintro (h | h | h) <;> (have := HLT.out; omega)) (fun c' t fz hc' => by rw [hx] at hc'; cases hc'; rintro ⟨_, h | h | h⟩ <;> exact absurd h (by decide))).trans hx)
  clear hW
  go_enter Try.func16, Try.ntmps16
  go_wp2_with fail
  rw [← HWE.out]
  refine Go.Reg.region (fun x : World => x.heap[w.heap.size]? = some (.cells #[.int .i64 2, .int .i64 N, .slice A bs.length c, .bool odd, .slice AM ms.length cm] 45 (0, 0))) [.s, .s, .s, .s, .w, .w, .s, .s, .s, .s, .w, .w, .s, .s] (by kernel_rfl) (by kernel_rfl) (show W.drew.heap[w.heap.size]? = _ from HBX.out) (fun ne => ?_)
  refine Go.Reg.lex_q 4 _ _ _ _ (by rfl) ?_; simp only [List.take_succ_cons, List.take_zero, List.drop_succ_cons, List.drop_zero]; (repeat (go_big_quiet_step (rfl))); refine wpQuiet_nil ?_
  refine Go.Reg.step_w (fun K hK => ?_)
  go_wp2_with fail
  have HW1 := Aside0.mk (below_drew1 (Below.refl W.heap.size W))
  refine (data_any (base := base) 2 N A bs c odd AM ms.length cm (fun x hx => HC.out x (((HAL.out.trans (HW1.out.mono HAL.out.size)).mono HBS.out).trans hx)) hc HP.out.bs).mono ?_
  rintro e w2 ⟨A2, c2, rfl, hC2, b2⟩
  have HC2 := Aside0.mk hC2
  have HP2 := Aside0.mk (HP.out.below (HW1.out.trans b2))
  have HF2 := Aside0.mk (show FB base db sb xb W w2 from FB.of_below (HW1.out.trans b2))
  clear hC2 b2
  go_wp2_with fail
  refine hK.out _ _ (HKB.out _ _ HBX.out HF2.out) ?_
  clear hK K
  try simp only [Act.put, List.setIfInBounds_toArray, List.set_cons_succ, List.set_cons_zero]
  refine Go.Reg.step_w (fun K hK => ?_)
  go_wp2_with fail
  refine (write_no HP2.out.pd N HR.out A2 _ c2).mono ?_
  rintro e w3 ⟨rfl, rfl⟩
  rw [← HRR.out]
  have f3 : FB base db sb xb w3 w3 := Fr.refl _ _ _
  have HP3 := Aside0.mk HP2.out.pd
  have HX3 := Aside0.mk HP2.out.rd
  have HF3 := Aside0.mk (HF2.out.trans f3)
  clear f3
  go_wp2_with fail
  refine hK.out _ _ (HKB.out _ _ HBX.out HF3.out) ?_
  clear hK K
  try simp only [Act.put, List.setIfInBounds_toArray, List.set_cons_succ, List.set_cons_zero]
  refine Go.Reg.lex_q 4 _ _ _ _ (by rfl) ?_; simp only [List.take_succ_cons, List.take_zero, List.drop_succ_cons, List.drop_zero]; (repeat (go_big_quiet_step (rfl))); refine wpQuiet_nil ?_
  refine Go.Reg.step_w (fun K hK => ?_)
  go_wp2_with fail
  have hbw := FB.below (HF0.out.trans HF3.out) HLOW.out.1 HLOW.out.2.1 HLOW.out.2.2 HBS.out
  refine (data_any (base := base) 2 N A bs c odd AM ms.length cm (fun x hx => HC.out x (hbw.trans hx)) hc (Nat.le_trans HBS.out hbw.size)).mono ?_
  rintro e w4 ⟨A4, c4, rfl, hC4, b4⟩
  have HC4 := Aside0.mk hC4
  have HP4 := Aside0.mk (HP3.out.below b4)
  have HX4 := Aside0.mk (HX3.out.below b4)
  have HF4 := Aside0.mk (HF3.out.trans (FB.of_below (db := db) (sb := sb) (xb := xb) b4))
  clear hC4 b4 hbw HP3 HX3
  go_wp2_with fail
  refine hK.out _ _ (HKB.out _ _ HBX.out HF4.out) ?_
  clear hK K
  try simp only [Act.put, List.setIfInBounds_toArray, List.set_cons_succ, List.set_cons_zero]
  refine Go.Reg.step_w (fun K hK => ?_)
  go_wp2_with fail
  refine (xwrite_no HX4.out N HR.out A4 _ c4).mono ?_
  rintro e w5 ⟨rfl, rfl⟩
  rw [← HRR.out]
  have f5 : FB base db sb xb w5 w5 := Fr.refl _ _ _
  have HP5 := HP4
  have HX5 := HX4
  have HF5 := Aside0.mk (HF4.out.trans f5)
  clear f5
  go_wp2_with fail
  refine hK.out _ _ (HKB.out _ _ HBX.out HF5.out) ?_
  clear hK K
  try simp only [Act.put, List.setIfInBounds_toArray, List.set_cons_succ, List.set_cons_zero]
  refine Go.Reg.lex_q 2 _ _ _ _ (by rfl) ?_; simp only [List.take_succ_cons, List.take_zero, List.drop_succ_cons, List.drop_zero]; (repeat (go_big_quiet_step (rfl))); refine wpQuiet_nil ?_
  refine Go.Reg.lex_nil ?_
  clear hm0 hm1 hm2 hm3 hm4
  go_wp2_with fail
  go_ret
  exact ⟨rfl, ⟨HP5.out, HX5.out, Nat.le_trans HP.out.bs HF5.out.size⟩, HF0.out.trans HF5.out, Nat.lt_of_lt_of_le HGT.out (Fr.size HF5.out)⟩
set_option maxHeartbeats 8000000 in
set_option maxRecDepth 100000 in
theorem do_write_size {w : World} {base db sb xb : Nat} {D : Dk} (h : Both w base db sb xb D) (N : Int) (A : Option Addr) (bs : List Int) (c : Nat) (odd : Bool) (AM : Option Addr) (ms : List Int) (cm : Nat) (hC : ∀ x, Below base w x → Kd.C (Kd.int .u8) x A bs.length bs) (hc : bs.length ≤ c) (hby : ∀ x ∈ bs, 0 ≤ x ∧ x ≤ 255) (hfew : D.waits.length ≤ 1000000) (hr : ready D N = 0) (hl : (dat odd bs).length ≠ 256) :
    Calls Try.prog 16 #[.pointer (some ⟨db, 0, none⟩), .pointer (some ⟨xb, 0, none⟩), .agg #[.int .i64 2, .int .i64 N, .slice A bs.length c, .bool odd, .slice AM ms.length cm]] w fun e w' => e = .returned (.bool true) ∧ Both w' base db sb xb D ∧ FB base db sb xb w w' ∧ w.heap.size < w'.heap.size := by
  have HC := Aside0.mk hC
  have HBY := Aside0.mk hby
  clear hC hby
  have HR := Aside0.mk hr
  have HL := Aside0.mk hl
  clear hr hl
  have hal : Below w.heap.size w (w.alloc (.cells #[.int .i64 2, .int .i64 N, .slice A bs.length c, .bool odd, .slice AM ms.length cm] 45)) := (Below.refl _ _).alloc (Nat.le_refl _) _
  obtain ⟨W, hW⟩ : ∃ W, W = w.alloc (.cells #[.int .i64 2, .int .i64 N, .slice A bs.length c, .bool odd, .slice AM ms.length cm] 45) := ⟨_, rfl⟩
  have HP := Aside0.mk (h.below hal)
  have HAL := Aside0.mk (show Below w.heap.size w W by rw [hW]; exact hal)
  have HF0 := Aside0.mk (show FB base db sb xb w W by rw [hW]; exact FB.of_below hal)
  have HWE := Aside0.mk hW
  have HGT := Aside0.mk (show w.heap.size < W.heap.size by rw [hW]; simp)
  have HBX := Aside0.mk (show W.heap[w.heap.size]? = some (.cells #[.int .i64 2, .int .i64 N, .slice A bs.length c, .bool odd, .slice AM ms.length cm] 45 (0, 0)) by rw [hW]; exact heap_alloc_new w _)
  have HLT := Aside0.mk h.lt
  have HLOW := Aside0.mk h.low
  have HBS := Aside0.mk h.bs
  clear h hal
  rw [← hW] at HP
  have hm0 : ∀ m : Go.Reg.In (fun x : World => x.heap[w.heap.size]? = some (.cells #[.int .i64 2, .int .i64 N, .slice A bs.length c, .bool odd, .slice AM ms.length cm] 45 (0, 0))), m.w.cell? ⟨w.heap.size, 0, none⟩ = some (.int .i64 2) := fun m => cell_blk m.h
  have hm1 : ∀ m : Go.Reg.In (fun x : World => x.heap[w.heap.size]? = some (.cells #[.int .i64 2, .int .i64 N, .slice A bs.length c, .bool odd, .slice AM ms.length cm] 45 (0, 0))), m.w.cell? ⟨w.heap.size, 1, none⟩ = some (.int .i64 N) := fun m => cell_blk m.h
  have hm2 : ∀ m : Go.Reg.In (fun x : World => x.heap[w.heap.size]? = some (.cells #[.int .i64 2, .int .i64 N, .slice A bs.length c, .bool odd, .slice AM ms.length cm] 45 (0, 0))), m.w.cell? ⟨w.heap.size, 2, none⟩ = some (.slice A bs.length c) := fun m => cell_blk m.h
  have hm3 : ∀ m : Go.Reg.In (fun x : World => x.heap[w.heap.size]? = some (.cells #[.int .i64 2, .int .i64 N, .slice A bs.length c, .bool odd, .slice AM ms.length cm] 45 (0, 0))), m.w.cell? ⟨w.heap.size, 3, none⟩ = some (.bool odd) := fun m => cell_blk m.h
  have hm4 : ∀ m : Go.Reg.In (fun x : World => x.heap[w.heap.size]? = some (.cells #[.int .i64 2, .int .i64 N, .slice A bs.length c, .bool odd, .slice AM ms.length cm] 45 (0, 0))), m.w.cell? ⟨w.heap.size, 4, none⟩ = some (.slice AM ms.length cm) := fun m => cell_blk m.h
  have HKB := Aside0.mk (show ∀ x y : World, x.heap[w.heap.size]? = some (.cells #[.int .i64 2, .int .i64 N, .slice A bs.length c, .bool odd, .slice AM ms.length cm] 45 (0, 0)) → FB base db sb xb x y → y.heap[w.heap.size]? = some (.cells #[.int .i64 2, .int .i64 N, .slice A bs.length c, .bool odd, .slice AM ms.length cm] 45 (0, 0)) from fun x y hx f => (f.block _ (blk_lt hx) (by rintro (h | h | h) <;> (have := HLT.out; omega)) (fun c' t fz hc' => by rw [hx] at hc'; cases hc'; rintro ⟨_, h | h | h⟩ <;> exact absurd h (by decide))).trans hx)
  clear hW
  go_enter Try.func16, Try.ntmps16
  go_wp2_with fail
  rw [← HWE.out]
  refine Go.Reg.region (fun x : World => x.heap[w.heap.size]? = some (.cells #[.int .i64 2, .int .i64 N, .slice A bs.length c, .bool odd, .slice AM ms.length cm] 45 (0, 0))) [.s, .s, .s, .s, .w, .w, .s, .s, .s, .s, .w, .w, .s, .s] (by kernel_rfl) (by kernel_rfl) (show W.drew.heap[w.heap.size]? = _ from HBX.out) (fun ne => ?_)
  refine Go.Reg.lex_q 4 _ _ _ _ (by rfl) ?_; simp only [List.take_succ_cons, List.take_zero, List.drop_succ_cons, List.drop_zero]; (repeat (go_big_quiet_step (rfl))); refine wpQuiet_nil ?_
  refine Go.Reg.step_w (fun K hK => ?_)
  go_wp2_with fail
  have HW1 := Aside0.mk (below_drew1 (Below.refl W.heap.size W))
  refine (data_any (base := base) 2 N A bs c odd AM ms.length cm (fun x hx => HC.out x (((HAL.out.trans (HW1.out.mono HAL.out.size)).mono HBS.out).trans hx)) hc HP.out.bs).mono ?_
  rintro e w2 ⟨A2, c2, rfl, hC2, b2⟩
  have HC2 := Aside0.mk hC2
  have HP2 := Aside0.mk (HP.out.below (HW1.out.trans b2))
  have HF2 := Aside0.mk (show FB base db sb xb W w2 from FB.of_below (HW1.out.trans b2))
  clear hC2 b2
  go_wp2_with fail
  refine hK.out _ _ (HKB.out _ _ HBX.out HF2.out) ?_
  clear hK K
  try simp only [Act.put, List.setIfInBounds_toArray, List.set_cons_succ, List.set_cons_zero]
  refine Go.Reg.step_w (fun K hK => ?_)
  go_wp2_with fail
  refine (write_size HP2.out.pd N HR.out A2 _ c2 HL.out).mono ?_
  rintro e w3 ⟨rfl, rfl⟩
  have f3 : FB base db sb xb w3 w3 := Fr.refl _ _ _
  have HP3 := Aside0.mk HP2.out.pd
  have HX3 := Aside0.mk HP2.out.rd
  have HF3 := Aside0.mk (HF2.out.trans f3)
  clear f3
  go_wp2_with fail
  refine hK.out _ _ (HKB.out _ _ HBX.out HF3.out) ?_
  clear hK K
  try simp only [Act.put, List.setIfInBounds_toArray, List.set_cons_succ, List.set_cons_zero]
  refine Go.Reg.lex_q 4 _ _ _ _ (by rfl) ?_; simp only [List.take_succ_cons, List.take_zero, List.drop_succ_cons, List.drop_zero]; (repeat (go_big_quiet_step (rfl))); refine wpQuiet_nil ?_
  refine Go.Reg.step_w (fun K hK => ?_)
  go_wp2_with fail
  have hbw := FB.below (HF0.out.trans HF3.out) HLOW.out.1 HLOW.out.2.1 HLOW.out.2.2 HBS.out
  refine (data_any (base := base) 2 N A bs c odd AM ms.length cm (fun x hx => HC.out x (hbw.trans hx)) hc (Nat.le_trans HBS.out hbw.size)).mono ?_
  rintro e w4 ⟨A4, c4, rfl, hC4, b4⟩
  have HC4 := Aside0.mk hC4
  have HP4 := Aside0.mk (HP3.out.below b4)
  have HX4 := Aside0.mk (HX3.out.below b4)
  have HF4 := Aside0.mk (HF3.out.trans (FB.of_below (db := db) (sb := sb) (xb := xb) b4))
  clear hC4 b4 hbw HP3 HX3
  go_wp2_with fail
  refine hK.out _ _ (HKB.out _ _ HBX.out HF4.out) ?_
  clear hK K
  try simp only [Act.put, List.setIfInBounds_toArray, List.set_cons_succ, List.set_cons_zero]
  refine Go.Reg.step_w (fun K hK => ?_)
  go_wp2_with fail
  refine (xwrite_size HX4.out N HR.out A4 _ c4 HL.out).mono ?_
  rintro e w5 ⟨rfl, rfl⟩
  have f5 : FB base db sb xb w5 w5 := Fr.refl _ _ _
  have HP5 := HP4
  have HX5 := HX4
  have HF5 := Aside0.mk (HF4.out.trans f5)
  clear f5
  go_wp2_with fail
  refine hK.out _ _ (HKB.out _ _ HBX.out HF5.out) ?_
  clear hK K
  try simp only [Act.put, List.setIfInBounds_toArray, List.set_cons_succ, List.set_cons_zero]
  refine Go.Reg.lex_q 2 _ _ _ _ (by rfl) ?_; simp only [List.take_succ_cons, List.take_zero, List.drop_succ_cons, List.drop_zero]; (repeat (go_big_quiet_step (rfl))); refine wpQuiet_nil ?_
  refine Go.Reg.lex_nil ?_
  clear hm0 hm1 hm2 hm3 hm4
  go_wp2_with fail
  go_ret
  exact ⟨rfl, ⟨HP5.out, HX5.out, Nat.le_trans HP.out.bs HF5.out.size⟩, HF0.out.trans HF5.out, Nat.lt_of_lt_of_le HGT.out (Fr.size HF5.out)⟩
set_option maxHeartbeats 8000000 in
set_option maxRecDepth 100000 in
theorem do_write_yes {w : World} {base db sb xb : Nat} {D : Dk} (h : Both w base db sb xb D) (N : Int) (A : Option Addr) (bs : List Int) (c : Nat) (odd : Bool) (AM : Option Addr) (ms : List Int) (cm : Nat) (hC : ∀ x, Below base w x → Kd.C (Kd.int .u8) x A bs.length bs) (hc : bs.length ≤ c) (hby : ∀ x ∈ bs, 0 ≤ x ∧ x ≤ 255) (hfew : D.waits.length ≤ 1000000) (hr : ready D N = 0) (hl : (dat odd bs).length = 256) :
    Calls Try.prog 16 #[.pointer (some ⟨db, 0, none⟩), .pointer (some ⟨xb, 0, none⟩), .agg #[.int .i64 2, .int .i64 N, .slice A bs.length c, .bool odd, .slice AM ms.length cm]] w fun e w' => e = .returned (.bool true) ∧ Both w' base db sb xb (writeD D N (dat odd bs)).1 ∧ FB base db sb xb w w' ∧ w.heap.size < w'.heap.size := by
  have HC := Aside0.mk hC
  have HBY := Aside0.mk hby
  clear hC hby
  have HR := Aside0.mk hr
  have HL := Aside0.mk hl
  obtain ⟨dd, hdd⟩ : ∃ dd, dd = dat odd bs := ⟨_, rfl⟩
  have HDD := Aside0.mk hdd
  obtain ⟨r, hrr⟩ : ∃ r, r = (writeD D N (dat odd bs)).2 := ⟨_, rfl⟩
  have HRR := Aside0.mk hrr
  clear hr hl hdd hrr
  have hal : Below w.heap.size w (w.alloc (.cells #[.int .i64 2, .int .i64 N, .slice A bs.length c, .bool odd, .slice AM ms.length cm] 45)) := (Below.refl _ _).alloc (Nat.le_refl _) _
  obtain ⟨W, hW⟩ : ∃ W, W = w.alloc (.cells #[.int .i64 2, .int .i64 N, .slice A bs.length c, .bool odd, .slice AM ms.length cm] 45) := ⟨_, rfl⟩
  have HP := Aside0.mk (h.below hal)
  have HAL := Aside0.mk (show Below w.heap.size w W by rw [hW]; exact hal)
  have HF0 := Aside0.mk (show FB base db sb xb w W by rw [hW]; exact FB.of_below hal)
  have HWE := Aside0.mk hW
  have HGT := Aside0.mk (show w.heap.size < W.heap.size by rw [hW]; simp)
  have HBX := Aside0.mk (show W.heap[w.heap.size]? = some (.cells #[.int .i64 2, .int .i64 N, .slice A bs.length c, .bool odd, .slice AM ms.length cm] 45 (0, 0)) by rw [hW]; exact heap_alloc_new w _)
  have HLT := Aside0.mk h.lt
  have HLOW := Aside0.mk h.low
  have HBS := Aside0.mk h.bs
  clear h hal
  rw [← hW] at HP
  have hm0 : ∀ m : Go.Reg.In (fun x : World => x.heap[w.heap.size]? = some (.cells #[.int .i64 2, .int .i64 N, .slice A bs.length c, .bool odd, .slice AM ms.length cm] 45 (0, 0))), m.w.cell? ⟨w.heap.size, 0, none⟩ = some (.int .i64 2) := fun m => cell_blk m.h
  have hm1 : ∀ m : Go.Reg.In (fun x : World => x.heap[w.heap.size]? = some (.cells #[.int .i64 2, .int .i64 N, .slice A bs.length c, .bool odd, .slice AM ms.length cm] 45 (0, 0))), m.w.cell? ⟨w.heap.size, 1, none⟩ = some (.int .i64 N) := fun m => cell_blk m.h
  have hm2 : ∀ m : Go.Reg.In (fun x : World => x.heap[w.heap.size]? = some (.cells #[.int .i64 2, .int .i64 N, .slice A bs.length c, .bool odd, .slice AM ms.length cm] 45 (0, 0))), m.w.cell? ⟨w.heap.size, 2, none⟩ = some (.slice A bs.length c) := fun m => cell_blk m.h
  have hm3 : ∀ m : Go.Reg.In (fun x : World => x.heap[w.heap.size]? = some (.cells #[.int .i64 2, .int .i64 N, .slice A bs.length c, .bool odd, .slice AM ms.length cm] 45 (0, 0))), m.w.cell? ⟨w.heap.size, 3, none⟩ = some (.bool odd) := fun m => cell_blk m.h
  have hm4 : ∀ m : Go.Reg.In (fun x : World => x.heap[w.heap.size]? = some (.cells #[.int .i64 2, .int .i64 N, .slice A bs.length c, .bool odd, .slice AM ms.length cm] 45 (0, 0))), m.w.cell? ⟨w.heap.size, 4, none⟩ = some (.slice AM ms.length cm) := fun m => cell_blk m.h
  have HKB := Aside0.mk (show ∀ x y : World, x.heap[w.heap.size]? = some (.cells #[.int .i64 2, .int .i64 N, .slice A bs.length c, .bool odd, .slice AM ms.length cm] 45 (0, 0)) → FB base db sb xb x y → y.heap[w.heap.size]? = some (.cells #[.int .i64 2, .int .i64 N, .slice A bs.length c, .bool odd, .slice AM ms.length cm] 45 (0, 0)) from fun x y hx f => (f.block _ (blk_lt hx) (by rintro (h | h | h) <;> (have := HLT.out; omega)) (fun c' t fz hc' => by rw [hx] at hc'; cases hc'; rintro ⟨_, h | h | h⟩ <;> exact absurd h (by decide))).trans hx)
  clear hW
  go_enter Try.func16, Try.ntmps16
  go_wp2_with fail
  rw [← HWE.out]
  refine Go.Reg.region (fun x : World => x.heap[w.heap.size]? = some (.cells #[.int .i64 2, .int .i64 N, .slice A bs.length c, .bool odd, .slice AM ms.length cm] 45 (0, 0))) [.s, .s, .s, .s, .w, .w, .s, .s, .s, .s, .w, .w, .s, .s] (by kernel_rfl) (by kernel_rfl) (show W.drew.heap[w.heap.size]? = _ from HBX.out) (fun ne => ?_)
  refine Go.Reg.lex_q 4 _ _ _ _ (by rfl) ?_; simp only [List.take_succ_cons, List.take_zero, List.drop_succ_cons, List.drop_zero]; (repeat (go_big_quiet_step (rfl))); refine wpQuiet_nil ?_
  refine Go.Reg.step_w (fun K hK => ?_)
  go_wp2_with fail
  have HW1 := Aside0.mk (below_drew1 (Below.refl W.heap.size W))
  refine (data_any (base := base) 2 N A bs c odd AM ms.length cm (fun x hx => HC.out x (((HAL.out.trans (HW1.out.mono HAL.out.size)).mono HBS.out).trans hx)) hc HP.out.bs).mono ?_
  rintro e w2 ⟨A2, c2, rfl, hC2, b2⟩
  have HC2 := Aside0.mk hC2
  have HP2 := Aside0.mk (HP.out.below (HW1.out.trans b2))
  have HF2 := Aside0.mk (show FB base db sb xb W w2 from FB.of_below (HW1.out.trans b2))
  clear hC2 b2
  go_wp2_with fail
  refine hK.out _ _ (HKB.out _ _ HBX.out HF2.out) ?_
  clear hK K
  try simp only [Act.put, List.setIfInBounds_toArray, List.set_cons_succ, List.set_cons_zero]
  refine Go.Reg.step_w (fun K hK => ?_)
  go_wp2_with fail
  obtain ⟨a2, rfl⟩ : ∃ a, A2 = some a := by obtain ⟨a, ha, _⟩ := (HC2.out _ (Below.refl _ _)).2.2 (by rw [HL.out]; omega); exact ⟨a, ha⟩
  refine (write_yes HP2.out.pd N HR.out a2 c2 (dat odd bs) HL.out (dat_mem odd bs HBY.out) HC2.out hfew).mono ?_
  rintro e w3 ⟨rfl, p3, fp3⟩
  rw [← HRR.out]
  have HP3 := Aside0.mk p3
  have HX3 := Aside0.mk (HP2.out.fp fp3)
  have f3 : FB base db sb xb w2 w3 := FB.of_fp fp3
  clear p3 fp3
  have HF3 := Aside0.mk (HF2.out.trans f3)
  clear f3
  go_wp2_with fail
  refine hK.out _ _ (HKB.out _ _ HBX.out HF3.out) ?_
  clear hK K
  try simp only [Act.put, List.setIfInBounds_toArray, List.set_cons_succ, List.set_cons_zero]
  refine Go.Reg.lex_q 4 _ _ _ _ (by rfl) ?_; simp only [List.take_succ_cons, List.take_zero, List.drop_succ_cons, List.drop_zero]; (repeat (go_big_quiet_step (rfl))); refine wpQuiet_nil ?_
  refine Go.Reg.step_w (fun K hK => ?_)
  go_wp2_with fail
  have hbw := FB.below (HF0.out.trans HF3.out) HLOW.out.1 HLOW.out.2.1 HLOW.out.2.2 HBS.out
  refine (data_any (base := base) 2 N A bs c odd AM ms.length cm (fun x hx => HC.out x (hbw.trans hx)) hc (Nat.le_trans HBS.out hbw.size)).mono ?_
  rintro e w4 ⟨A4, c4, rfl, hC4, b4⟩
  have HC4 := Aside0.mk hC4
  have HP4 := Aside0.mk (HP3.out.below b4)
  have HX4 := Aside0.mk (HX3.out.below b4)
  have HF4 := Aside0.mk (HF3.out.trans (FB.of_below (db := db) (sb := sb) (xb := xb) b4))
  clear hC4 b4 hbw HP3 HX3
  go_wp2_with fail
  refine hK.out _ _ (HKB.out _ _ HBX.out HF4.out) ?_
  clear hK K
  try simp only [Act.put, List.setIfInBounds_toArray, List.set_cons_succ, List.set_cons_zero]
  refine Go.Reg.step_w (fun K hK => ?_)
  go_wp2_with fail
  obtain ⟨a4, rfl⟩ : ∃ a, A4 = some a := by obtain ⟨a, ha, _⟩ := (HC4.out _ (Below.refl _ _)).2.2 (by rw [HL.out]; omega); exact ⟨a, ha⟩
  refine (xwrite_yes HX4.out N HR.out a4 c4 (dat odd bs) HL.out (dat_mem odd bs HBY.out) HC4.out hfew).mono ?_
  rintro e w5 ⟨rfl, p5, fx5⟩
  rw [← HRR.out]
  have HP5 := Aside0.mk (PD.fx HP4.out HX4.out fx5)
  have HX5 := Aside0.mk p5
  have f5 : FB base db sb xb w4 w5 := FB.of_fx fx5
  clear p5 fx5
  have HF5 := Aside0.mk (HF4.out.trans f5)
  clear f5
  go_wp2_with fail
  refine hK.out _ _ (HKB.out _ _ HBX.out HF5.out) ?_
  clear hK K
  try simp only [Act.put, List.setIfInBounds_toArray, List.set_cons_succ, List.set_cons_zero]
  refine Go.Reg.lex_q 2 _ _ _ _ (by rfl) ?_; simp only [List.take_succ_cons, List.take_zero, List.drop_succ_cons, List.drop_zero]; (repeat (go_big_quiet_step (rfl))); refine wpQuiet_nil ?_
  refine Go.Reg.lex_nil ?_
  clear hm0 hm1 hm2 hm3 hm4
  go_wp2_with fail
  go_ret
  exact ⟨rfl, ⟨HP5.out, HX5.out, Nat.le_trans HP.out.bs HF5.out.size⟩, HF0.out.trans HF5.out, Nat.lt_of_lt_of_le HGT.out (Fr.size HF5.out)⟩
end Disk
end Go.Proofs.Ytooemgcijbdilaa
namespace Go.Proofs.Ytooemgcijbdilaa
set_option linter.unusedVariables false
set_option linter.unusedSimpArgs false
open Go.RowKit Go.Proofs.YtooemgcijbdilaaW.PrintWords Go.Proofs.YtooemgcijbdilaaW.PrintLast Go.Proofs.YtooemgcijbdilaaW.PrintMore
namespace Disk
open Go.Disk PDiskDoes
theorem off_ready {D : Dk} (h : Ok D) : ready D 0 = if D.off then 9 else 0 := by
  unfold ready
  have := h.few
  split
  · rfl
  · rw [if_neg (by omega)]
set_option maxHeartbeats 8000000 in
set_option maxRecDepth 100000 in
theorem do_flush_off {w : World} {base db sb xb : Nat} {D : Dk} (h : Both w base db sb xb D) (N : Int) (A : Option Addr) (bs : List Int) (c : Nat) (odd : Bool) (AM : Option Addr) (ms : List Int) (cm : Nat) (ho : D.off = true) :
    Calls Try.prog 16 #[.pointer (some ⟨db, 0, none⟩), .pointer (some ⟨xb, 0, none⟩), .agg #[.int .i64 3, .int .i64 N, .slice A bs.length c, .bool odd, .slice AM ms.length cm]] w fun e w' => e = .returned (.bool true) ∧ Both w' base db sb xb D ∧ FB base db sb xb w w' ∧ w.heap.size < w'.heap.size := by
  have HO := Aside0.mk ho
  have HRE := Aside0.mk (show ready D 0 = 9 by rw [off_ready h.ok, ho]; rfl)
  clear ho
  have hal : Below w.heap.size w (w.alloc (.cells #[.int .i64 3, .int .i64 N, .slice A bs.length c, .bool odd, .slice AM ms.length cm] 45)) := (Below.refl _ _).alloc (Nat.le_refl _) _
  obtain ⟨W, hW⟩ : ∃ W, W = w.alloc (.cells #[.int .i64 3, .int .i64 N, .slice A bs.length c, .bool odd, .slice AM ms.length cm] 45) := ⟨_, rfl⟩
  have HP := Aside0.mk (h.below hal)
  have HAL := Aside0.mk (show Below w.heap.size w W by rw [hW]; exact hal)
  have HF0 := Aside0.mk (show FB base db sb xb w W by rw [hW]; exact FB.of_below hal)
  have HWE := Aside0.mk hW
  have HGT := Aside0.mk (show w.heap.size < W.heap.size by rw [hW]; simp)
  have HBX := Aside0.mk (show W.heap[w.heap.size]? = some (.cells #[.int .i64 3, .int .i64 N, .slice A bs.length c, .bool odd, .slice AM ms.length cm] 45 (0, 0)) by rw [hW]; exact heap_alloc_new w _)
  have HLT := Aside0.mk h.lt
  have HLOW := Aside0.mk h.low
  have HBS := Aside0.mk h.bs
  clear h hal
  rw [← hW] at HP
  clear hW
  go_enter Try.func16, Try.ntmps16
  go_wp2_with fail
  rw [← HWE.out]
  refine (flush_no HP.out.pd (by rw [HRE.out]; decide)).mono ?_
  rintro e w2 ⟨rfl, rfl⟩
  rw [HRE.out]
  have f2 : FB base db sb xb w2 w2 := Fr.refl _ _ _
  have HF2 := Aside0.mk f2
  clear f2
  go_wp2_with fail
  refine (xflush_off HP.out.rd HO.out).mono ?_
  rintro e w3 ⟨rfl, rfl⟩
  have f3 : FB base db sb xb w3 w3 := Fr.refl _ _ _
  have HP3 := Aside0.mk HP.out.pd
  have HX3 := Aside0.mk HP.out.rd
  have HF3 := Aside0.mk (HF2.out.trans f3)
  clear f3
  go_wp2_with fail
  go_ret
  exact ⟨rfl, ⟨HP3.out, HX3.out, Nat.le_trans HP.out.bs HF3.out.size⟩, HF0.out.trans HF3.out, Nat.lt_of_lt_of_le HGT.out (Fr.size HF3.out)⟩
set_option maxHeartbeats 8000000 in
set_option maxRecDepth 100000 in
theorem do_flush_stop {w : World} {base db sb xb : Nat} {D : Dk} (h : Both w base db sb xb D) (N : Int) (A : Option Addr) (bs : List Int) (c : Nat) (odd : Bool) (AM : Option Addr) (ms : List Int) (cm : Nat) (ho : D.off = false) (hl : D.left = 0) :
    Calls Try.prog 16 #[.pointer (some ⟨db, 0, none⟩), .pointer (some ⟨xb, 0, none⟩), .agg #[.int .i64 3, .int .i64 N, .slice A bs.length c, .bool odd, .slice AM ms.length cm]] w fun e w' => e = .returned (.bool true) ∧ Both w' base db sb xb (deedD D) ∧ FB base db sb xb w w' ∧ w.heap.size < w'.heap.size := by
  have HO := Aside0.mk ho
  have HL := Aside0.mk hl
  have HRE := Aside0.mk (show ready D 0 = 0 by rw [off_ready h.ok, ho]; rfl)
  clear ho hl
  have hal : Below w.heap.size w (w.alloc (.cells #[.int .i64 3, .int .i64 N, .slice A bs.length c, .bool odd, .slice AM ms.length cm] 45)) := (Below.refl _ _).alloc (Nat.le_refl _) _
  obtain ⟨W, hW⟩ : ∃ W, W = w.alloc (.cells #[.int .i64 3, .int .i64 N, .slice A bs.length c, .bool odd, .slice AM ms.length cm] 45) := ⟨_, rfl⟩
  have HP := Aside0.mk (h.below hal)
  have HAL := Aside0.mk (show Below w.heap.size w W by rw [hW]; exact hal)
  have HF0 := Aside0.mk (show FB base db sb xb w W by rw [hW]; exact FB.of_below hal)
  have HWE := Aside0.mk hW
  have HGT := Aside0.mk (show w.heap.size < W.heap.size by rw [hW]; simp)
  have HBX := Aside0.mk (show W.heap[w.heap.size]? = some (.cells #[.int .i64 3, .int .i64 N, .slice A bs.length c, .bool odd, .slice AM ms.length cm] 45 (0, 0)) by rw [hW]; exact heap_alloc_new w _)
  have HLT := Aside0.mk h.lt
  have HLOW := Aside0.mk h.low
  have HBS := Aside0.mk h.bs
  clear h hal
  rw [← hW] at HP
  clear hW
  go_enter Try.func16, Try.ntmps16
  go_wp2_with fail
  rw [← HWE.out]
  refine (flush_stop HP.out.pd HRE.out HL.out).mono ?_
  rintro e w2 ⟨rfl, p2, fp2⟩
  have HX2 := Aside0.mk (HP.out.fp fp2)
  have HP2 := Aside0.mk p2
  have f2 : FB base db sb xb W w2 := FB.of_fp fp2
  clear p2 fp2
  have HF2 := Aside0.mk f2
  clear f2
  go_wp2_with fail
  refine (xflush_stop HX2.out HO.out HL.out).mono ?_
  rintro e w3 ⟨rfl, p3, fx3⟩
  have HP3 := Aside0.mk (PD.fx HP2.out HX2.out fx3)
  have HX3 := Aside0.mk p3
  have f3 : FB base db sb xb w2 w3 := FB.of_fx fx3
  clear p3 fx3
  have HF3 := Aside0.mk (HF2.out.trans f3)
  clear f3
  go_wp2_with fail
  go_ret
  exact ⟨rfl, ⟨HP3.out, HX3.out, Nat.le_trans HP.out.bs HF3.out.size⟩, HF0.out.trans HF3.out, Nat.lt_of_lt_of_le HGT.out (Fr.size HF3.out)⟩
set_option maxHeartbeats 8000000 in
set_option maxRecDepth 100000 in
theorem do_flush_yes {w : World} {base db sb xb : Nat} {D : Dk} (h : Both w base db sb xb D) (N : Int) (A : Option Addr) (bs : List Int) (c : Nat) (odd : Bool) (AM : Option Addr) (ms : List Int) (cm : Nat) (ho : D.off = false) (hl : D.left ≠ 0) (hfew : D.waits.length ≤ 1000000) :
    Calls Try.prog 16 #[.pointer (some ⟨db, 0, none⟩), .pointer (some ⟨xb, 0, none⟩), .agg #[.int .i64 3, .int .i64 N, .slice A bs.length c, .bool odd, .slice AM ms.length cm]] w fun e w' => e = .returned (.bool true) ∧ Both w' base db sb xb (flushD (deedD D)) ∧ FB base db sb xb w w' ∧ w.heap.size < w'.heap.size := by
  have HO := Aside0.mk ho
  have HL := Aside0.mk hl
  have HRE := Aside0.mk (show ready D 0 = 0 by rw [off_ready h.ok, ho]; rfl)
  clear ho hl
  have hal : Below w.heap.size w (w.alloc (.cells #[.int .i64 3, .int .i64 N, .slice A bs.length c, .bool odd, .slice AM ms.length cm] 45)) := (Below.refl _ _).alloc (Nat.le_refl _) _
  obtain ⟨W, hW⟩ : ∃ W, W = w.alloc (.cells #[.int .i64 3, .int .i64 N, .slice A bs.length c, .bool odd, .slice AM ms.length cm] 45) := ⟨_, rfl⟩
  have HP := Aside0.mk (h.below hal)
  have HAL := Aside0.mk (show Below w.heap.size w W by rw [hW]; exact hal)
  have HF0 := Aside0.mk (show FB base db sb xb w W by rw [hW]; exact FB.of_below hal)
  have HWE := Aside0.mk hW
  have HGT := Aside0.mk (show w.heap.size < W.heap.size by rw [hW]; simp)
  have HBX := Aside0.mk (show W.heap[w.heap.size]? = some (.cells #[.int .i64 3, .int .i64 N, .slice A bs.length c, .bool odd, .slice AM ms.length cm] 45 (0, 0)) by rw [hW]; exact heap_alloc_new w _)
  have HLT := Aside0.mk h.lt
  have HLOW := Aside0.mk h.low
  have HBS := Aside0.mk h.bs
  clear h hal
  rw [← hW] at HP
  clear hW
  go_enter Try.func16, Try.ntmps16
  go_wp2_with fail
  rw [← HWE.out]
  refine (flush_yes HP.out.pd HRE.out HL.out hfew).mono ?_
  rintro e w2 ⟨rfl, p2, fp2⟩
  have HX2 := Aside0.mk (HP.out.fp fp2)
  have HP2 := Aside0.mk p2
  have f2 : FB base db sb xb W w2 := FB.of_fp fp2
  clear p2 fp2
  have HF2 := Aside0.mk f2
  clear f2
  go_wp2_with fail
  refine (xflush_yes HX2.out HO.out HL.out hfew).mono ?_
  rintro e w3 ⟨rfl, p3, fx3⟩
  have HP3 := Aside0.mk (PD.fx HP2.out HX2.out fx3)
  have HX3 := Aside0.mk p3
  have f3 : FB base db sb xb w2 w3 := FB.of_fx fx3
  clear p3 fx3
  have HF3 := Aside0.mk (HF2.out.trans f3)
  clear f3
  go_wp2_with fail
  go_ret
  exact ⟨rfl, ⟨HP3.out, HX3.out, Nat.le_trans HP.out.bs HF3.out.size⟩, HF0.out.trans HF3.out, Nat.lt_of_lt_of_le HGT.out (Fr.size HF3.out)⟩
set_option maxHeartbeats 8000000 in
set_option maxRecDepth 100000 in
theorem do_stop {w : World} {base db sb xb : Nat} {D : Dk} (h : Both w base db sb xb D) (N : Int) (A : Option Addr) (bs : List Int) (c : Nat) (odd : Bool) (AM : Option Addr) (ms : List Int) (cm : Nat) (hN : N ≤ 9223372036854775807) :
    Calls Try.prog 16 #[.pointer (some ⟨db, 0, none⟩), .pointer (some ⟨xb, 0, none⟩), .agg #[.int .i64 4, .int .i64 N, .slice A bs.length c, .bool odd, .slice AM ms.length cm]] w fun e w' => e = .returned (.bool true) ∧ Both w' base db sb xb (if N < 0 then D else stopD D N) ∧ FB base db sb xb w w' ∧ w.heap.size < w'.heap.size := by
  have hal : Below w.heap.size w (w.alloc (.cells #[.int .i64 4, .int .i64 N, .slice A bs.length c, .bool odd, .slice AM ms.length cm] 45)) := (Below.refl _ _).alloc (Nat.le_refl _) _
  obtain ⟨W, hW⟩ : ∃ W, W = w.alloc (.cells #[.int .i64 4, .int .i64 N, .slice A bs.length c, .bool odd, .slice AM ms.length cm] 45) := ⟨_, rfl⟩
  have HP := Aside0.mk (h.below hal)
  have HAL := Aside0.mk (show Below w.heap.size w W by rw [hW]; exact hal)
  have HF0 := Aside0.mk (show FB base db sb xb w W by rw [hW]; exact FB.of_below hal)
  have HWE := Aside0.mk hW
  have HGT := Aside0.mk (show w.heap.size < W.heap.size by rw [hW]; simp)
  have HBX := Aside0.mk (show W.heap[w.heap.size]? = some (.cells #[.int .i64 4, .int .i64 N, .slice A bs.length c, .bool odd, .slice AM ms.length cm] 45 (0, 0)) by rw [hW]; exact heap_alloc_new w _)
  have HLT := Aside0.mk h.lt
  have HLOW := Aside0.mk h.low
  have HBS := Aside0.mk h.bs
  clear h hal
  rw [← hW] at HP
  have HKB := Aside0.mk (show ∀ x y : World, x.heap[w.heap.size]? = some (.cells #[.int .i64 4, .int .i64 N, .slice A bs.length c, .bool odd, .slice AM ms.length cm] 45 (0, 0)) → FB base db sb xb x y → y.heap[w.heap.size]? = some (.cells #[.int .i64 4, .int .i64 N, .slice A bs.length c, .bool odd, .slice AM ms.length cm] 45 (0, 0)) from fun x y hx f => (f.block _ (blk_lt hx) (by rintro (h | h | h) <;> (have := HLT.out; omega)) (fun c' t fz hc' => by rw [hx] at hc'; cases hc'; rintro ⟨_, h | h | h⟩ <;> exact absurd h (by decide))).trans hx)
  clear hW
  have hm1 : ∀ m : Go.Reg.In (fun x : World => x.heap[w.heap.size]? = some (.cells #[.int .i64 4, .int .i64 N, .slice A bs.length c, .bool odd, .slice AM ms.length cm] 45 (0, 0))), m.w.cell? ⟨w.heap.size, 1, none⟩ = some (.int .i64 N) := fun m => cell_blk m.h
  obtain ⟨r, hr⟩ : ∃ r : Int, r = (if N < 0 then 1 else 0) := ⟨_, rfl⟩
  have HR := Aside0.mk hr
  clear hr
  obtain ⟨D', hD'⟩ : ∃ D', D' = (if N < 0 then D else stopD D N) := ⟨_, rfl⟩
  rw [← hD']
  have HD := Aside0.mk hD'
  clear hD'
  go_enter Try.func16, Try.ntmps16
  go_wp2_with fail
  rw [← HWE.out]
  refine Go.Reg.region (fun x : World => x.heap[w.heap.size]? = some (.cells #[.int .i64 4, .int .i64 N, .slice A bs.length c, .bool odd, .slice AM ms.length cm] 45 (0, 0))) [.s, .s, .s, .w, .s, .s, .s, .w, .s, .s] (by kernel_rfl) (by kernel_rfl) (show W.drew.heap[w.heap.size]? = _ from HBX.out) (fun ne => ?_)
  refine Go.Reg.lex_q 3 _ _ _ _ (by rfl) ?_; simp only [List.take_succ_cons, List.take_zero, List.drop_succ_cons, List.drop_zero]; (repeat (go_big_quiet_step (rfl))); refine wpQuiet_nil ?_
  refine Go.Reg.step_w (fun K hK => ?_)
  go_wp2_with fail
  have HW1 := Aside0.mk (below_drew1 (Below.refl W.heap.size W))
  refine (stop_any N (HP.out.pd.below HW1.out) hN).mono ?_
  rintro e w2 ⟨rfl, p2, fp2⟩
  rw [← HR.out]
  have HX2 := Aside0.mk ((HP.out.below HW1.out).fp fp2)
  rw [← HD.out] at p2
  have HP2 := Aside0.mk p2
  have HF2 := Aside0.mk ((FB.of_below (db := db) (sb := sb) (xb := xb) HW1.out).trans (FB.of_fp fp2))
  clear p2 fp2
  go_wp2_with fail
  refine hK.out _ _ (HKB.out _ _ HBX.out HF2.out) ?_
  clear hK K
  try simp only [Act.put, List.setIfInBounds_toArray, List.set_cons_succ, List.set_cons_zero]
  refine Go.Reg.lex_q 3 _ _ _ _ (by rfl) ?_; simp only [List.take_succ_cons, List.take_zero, List.drop_succ_cons, List.drop_zero]; (repeat (go_big_quiet_step (rfl))); refine wpQuiet_nil ?_
  refine Go.Reg.step_w (fun K hK => ?_)
  go_wp2_with fail
  refine (xstop_any N HX2.out hN).mono ?_
  rintro e w3 ⟨rfl, p3, fx3⟩
  rw [← HR.out]
  have HP3 := Aside0.mk (PD.fx HP2.out HX2.out fx3)
  rw [← HD.out] at p3
  have HX3 := Aside0.mk p3
  have HF3 := Aside0.mk (HF2.out.trans (FB.of_fx fx3))
  clear p3 fx3
  go_wp2_with fail
  refine hK.out _ _ (HKB.out _ _ HBX.out HF3.out) ?_
  clear hK K
  try simp only [Act.put, List.setIfInBounds_toArray, List.set_cons_succ, List.set_cons_zero]
  refine Go.Reg.lex_q 2 _ _ _ _ (by rfl) ?_; simp only [List.take_succ_cons, List.take_zero, List.drop_succ_cons, List.drop_zero]; (repeat (go_big_quiet_step (rfl))); refine wpQuiet_nil ?_
  refine Go.Reg.lex_nil ?_
  clear hm1
  go_wp2_with fail
  go_ret
  exact ⟨rfl, ⟨HP3.out, HX3.out, Nat.le_trans HP.out.bs HF3.out.size⟩, HF0.out.trans HF3.out, Nat.lt_of_lt_of_le HGT.out (Fr.size HF3.out)⟩
set_option maxHeartbeats 8000000 in
set_option maxRecDepth 100000 in
theorem do_crash {w : World} {base db sb xb : Nat} {D : Dk} (h : Both w base db sb xb D) (N : Int) (A : Option Addr) (bs : List Int) (c : Nat) (odd : Bool) (AM : Option Addr) (ms : List Int) (cm : Nat) (hM : ∀ x, Below base w x → Kd.C (Kd.int .i64) x AM ms.length ms) (hcm : ms.length ≤ cm) :
    Calls Try.prog 16 #[.pointer (some ⟨db, 0, none⟩), .pointer (some ⟨xb, 0, none⟩), .agg #[.int .i64 5, .int .i64 N, .slice A bs.length c, .bool odd, .slice AM ms.length cm]] w fun e w' => e = .returned (.bool true) ∧ Both w' base db sb xb (crashD D ms) ∧ FB base db sb xb w w' ∧ w.heap.size < w'.heap.size := by
  have HM := Aside0.mk hM
  clear hM
  have hal : Below w.heap.size w (w.alloc (.cells #[.int .i64 5, .int .i64 N, .slice A bs.length c, .bool odd, .slice AM ms.length cm] 45)) := (Below.refl _ _).alloc (Nat.le_refl _) _
  obtain ⟨W, hW⟩ : ∃ W, W = w.alloc (.cells #[.int .i64 5, .int .i64 N, .slice A bs.length c, .bool odd, .slice AM ms.length cm] 45) := ⟨_, rfl⟩
  have HP := Aside0.mk (h.below hal)
  have HAL := Aside0.mk (show Below w.heap.size w W by rw [hW]; exact hal)
  have HF0 := Aside0.mk (show FB base db sb xb w W by rw [hW]; exact FB.of_below hal)
  have HWE := Aside0.mk hW
  have HGT := Aside0.mk (show w.heap.size < W.heap.size by rw [hW]; simp)
  have HBX := Aside0.mk (show W.heap[w.heap.size]? = some (.cells #[.int .i64 5, .int .i64 N, .slice A bs.length c, .bool odd, .slice AM ms.length cm] 45 (0, 0)) by rw [hW]; exact heap_alloc_new w _)
  have HLT := Aside0.mk h.lt
  have HLOW := Aside0.mk h.low
  have HBS := Aside0.mk h.bs
  clear h hal
  rw [← hW] at HP
  have HKB := Aside0.mk (show ∀ x y : World, x.heap[w.heap.size]? = some (.cells #[.int .i64 5, .int .i64 N, .slice A bs.length c, .bool odd, .slice AM ms.length cm] 45 (0, 0)) → FB base db sb xb x y → y.heap[w.heap.size]? = some (.cells #[.int .i64 5, .int .i64 N, .slice A bs.length c, .bool odd, .slice AM ms.length cm] 45 (0, 0)) from fun x y hx f => (f.block _ (blk_lt hx) (by rintro (h | h | h) <;> (have := HLT.out; omega)) (fun c' t fz hc' => by rw [hx] at hc'; cases hc'; rintro ⟨_, h | h | h⟩ <;> exact absurd h (by decide))).trans hx)
  clear hW
  go_enter Try.func16, Try.ntmps16
  go_wp2_with fail
  rw [← HWE.out]
  have HBW := Aside0.mk (show Below base w W from HAL.out.mono HBS.out)
  refine (crash_any HP.out.pd AM cm ms (HM.out _ HBW.out) hcm (fun x hx => HM.out _ (HBW.out.trans ⟨hx.os, hx.tape, hx.output, hx.size, fun k hk => hx.block k (Nat.lt_of_lt_of_le hk HP.out.bs) (by have := HLOW.out; omega) (fun _ _ _ _ h => h)⟩))).mono ?_
  rintro e w2 ⟨⟨v2, rfl⟩, p2, fp2⟩
  have HX2 := Aside0.mk (HP.out.fp fp2)
  have HP2 := Aside0.mk p2
  have HF2 := Aside0.mk (show FB base db sb xb W w2 from FB.of_fp fp2)
  have c4 : w2.cell? ⟨w.heap.size, 4, none⟩ = some (.slice AM ms.length cm) := cell_blk (HKB.out _ _ HBX.out HF2.out)
  clear p2 fp2
  go_wp2_with fail
  have HBW2 := Aside0.mk (HBW.out.trans (FB.below HF2.out HLOW.out.1 HLOW.out.2.1 HLOW.out.2.2 HP.out.bs))
  refine (xcrash_any HX2.out AM cm ms (HM.out _ HBW2.out) (fun x hx => HM.out _ (HBW2.out.trans (FB.below (FB.of_fx (db := db) (sb := sb) hx) HLOW.out.1 HLOW.out.2.1 HLOW.out.2.2 (Nat.le_trans HBS.out HBW2.out.size))))).mono ?_
  rintro e w3 ⟨⟨v3, rfl⟩, p3, fx3⟩
  have HP3 := Aside0.mk (PD.fx HP2.out HX2.out fx3)
  have HX3 := Aside0.mk p3
  have HF3 := Aside0.mk (HF2.out.trans (FB.of_fx fx3))
  clear p3 fx3 c4
  go_wp2_with fail
  go_ret
  exact ⟨rfl, ⟨HP3.out, HX3.out, Nat.le_trans HP.out.bs HF3.out.size⟩, HF0.out.trans HF3.out, Nat.lt_of_lt_of_le HGT.out (Fr.size HF3.out)⟩
set_option maxHeartbeats 8000000 in
set_option maxRecDepth 100000 in
theorem do_else {w : World} {base db sb xb : Nat} {D : Dk} (h : Both w base db sb xb D) (K : Int) (N : Int) (A : Option Addr) (bs : List Int) (c : Nat) (odd : Bool) (AM : Option Addr) (ms : List Int) (cm : Nat) (h1 : (K == 1) = false) (h2 : (K == 2) = false) (h3 : (K == 3) = false) (h4 : (K == 4) = false) (h5 : (K == 5) = false) :
    Calls Try.prog 16 #[.pointer (some ⟨db, 0, none⟩), .pointer (some ⟨xb, 0, none⟩), .agg #[.int .i64 K, .int .i64 N, .slice A bs.length c, .bool odd, .slice AM ms.length cm]] w fun e w' => e = .returned (.bool true) ∧ Both w' base db sb xb D ∧ FB base db sb xb w w' ∧ w.heap.size < w'.heap.size := by
  have hal : Below w.heap.size w (w.alloc (.cells #[.int .i64 K, .int .i64 N, .slice A bs.length c, .bool odd, .slice AM ms.length cm] 45)) := (Below.refl _ _).alloc (Nat.le_refl _) _
  obtain ⟨W, hW⟩ : ∃ W, W = w.alloc (.cells #[.int .i64 K, .int .i64 N, .slice A bs.length c, .bool odd, .slice AM ms.length cm] 45) := ⟨_, rfl⟩
  have HP := Aside0.mk (h.below hal)
  have HAL := Aside0.mk (show Below w.heap.size w W by rw [hW]; exact hal)
  have HF0 := Aside0.mk (show FB base db sb xb w W by rw [hW]; exact FB.of_below hal)
  have HWE := Aside0.mk hW
  have HGT := Aside0.mk (show w.heap.size < W.heap.size by rw [hW]; simp)
  have HBX := Aside0.mk (show W.heap[w.heap.size]? = some (.cells #[.int .i64 K, .int .i64 N, .slice A bs.length c, .bool odd, .slice AM ms.length cm] 45 (0, 0)) by rw [hW]; exact heap_alloc_new w _)
  have HLT := Aside0.mk h.lt
  have HLOW := Aside0.mk h.low
  have HBS := Aside0.mk h.bs
  clear h hal
  rw [← hW] at HP
  clear hW
  go_enter Try.func16, Try.ntmps16
  go_wp2_with fail
  rw [← HWE.out]
  go_ret
  exact ⟨rfl, HP.out, HF0.out, HGT.out⟩
theorem beq_no {a b : Int} (h : a ≠ b) : (a == b) = false := by simpa using h
/-- One deed with both. -/
theorem do_any {w : World} {base db sb xb : Nat} {D : Dk} (h : Both w base db sb xb D) (K N : Int) (A : Option Addr) (bs : List Int) (c : Nat) (odd : Bool) (AM : Option Addr) (ms : List Int) (cm : Nat) (hC : ∀ x, Below base w x → Kd.C (Kd.int .u8) x A bs.length bs) (hc : bs.length ≤ c) (hby : ∀ x ∈ bs, 0 ≤ x ∧ x ≤ 255)
    (hM : ∀ x, Below base w x → Kd.C (Kd.int .i64) x AM ms.length ms) (hcm : ms.length ≤ cm) (hN : N ≤ 9223372036854775807) (hfew : D.waits.length ≤ 1000000) :
    Calls Try.prog 16 #[.pointer (some ⟨db, 0, none⟩), .pointer (some ⟨xb, 0, none⟩), .agg #[.int .i64 K, .int .i64 N, .slice A bs.length c, .bool odd, .slice AM ms.length cm]] w fun e w' => e = .returned (.bool true) ∧ Both w' base db sb xb (doD D K N bs odd ms) ∧ FB base db sb xb w w' ∧ w.heap.size < w'.heap.size := by
  unfold doD
  by_cases h1 : K = 1
  · subst h1
    rw [if_pos rfl]
    exact do_read h N A bs.length c odd AM ms.length cm hfew
  rw [if_neg h1]
  by_cases h2 : K = 2
  · subst h2
    rw [if_pos rfl]
    by_cases hr : ready D N = 0
    · by_cases hl : (dat odd bs).length = 256
      · exact do_write_yes h N A bs c odd AM ms cm hC hc hby hfew hr hl
      · have : (writeD D N (dat odd bs)).1 = D := by unfold writeD; rw [if_neg (by omega), if_pos hl]
        rw [this]
        exact do_write_size h N A bs c odd AM ms cm hC hc hby hfew hr hl
    · have : (writeD D N (dat odd bs)).1 = D := by unfold writeD; rw [if_pos hr]
      rw [this]
      exact do_write_no h N A bs c odd AM ms cm hC hc hby hfew hr
  rw [if_neg h2]
  by_cases h3 : K = 3
  · subst h3
    rw [if_pos rfl]
    unfold flushF
    rw [off_ready h.ok]
    cases ho : D.off with
    | true =>
      rw [if_pos (by decide)]
      exact do_flush_off h N A bs c odd AM ms cm ho
    | false =>
      rw [if_neg (by decide)]
      by_cases hl : D.left = 0
      · rw [if_pos hl]
        exact do_flush_stop h N A bs c odd AM ms cm ho hl
      · rw [if_neg hl]
        exact do_flush_yes h N A bs c odd AM ms cm ho hl hfew
  rw [if_neg h3]
  by_cases h4 : K = 4
  · subst h4
    rw [if_pos rfl]
    exact do_stop h N A bs c odd AM ms cm hN
  rw [if_neg h4]
  by_cases h5 : K = 5
  · subst h5
    rw [if_pos rfl]
    exact do_crash h N A bs c odd AM ms cm hM hcm
  rw [if_neg h5]
  exact do_else h K N A bs c odd AM ms cm (beq_no h1) (beq_no h2) (beq_no h3) (beq_no h4) (beq_no h5)
end Disk
end Go.Proofs.Ytooemgcijbdilaa
