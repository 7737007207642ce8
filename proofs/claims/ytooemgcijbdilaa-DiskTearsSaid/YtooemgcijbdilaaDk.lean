/- The disk's law: awake. -/
import Derived.Test.YtooemgcijbdilaaDb
namespace Go.Proofs.Ytooemgcijbdilaa
set_option linter.unusedVariables false
set_option linter.unusedSimpArgs false
open Go.RowKit Go.Proofs.YtooemgcijbdilaaW.PrintWords Go.Proofs.YtooemgcijbdilaaW.PrintLast Go.Proofs.YtooemgcijbdilaaW.PrintMore
namespace Disk
open Go.Disk PDiskDoes
theorem row1_8 {w : World} {b t : Nat} {x : Int} (hb : w.heap[b]? = some (.cells #[.int .u8 x] t (0, 0))) : Kd.C (Kd.int .u8) w (some ⟨b, 0, none⟩) 1 [x] := by
  refine Kd.C_of_reads (enc := fun x => Value.int .u8 x) (d := (0:Int)) (h1 := fun _ => rfl) ⟨rfl, by omega, fun _ => ⟨_, rfl, fun j hj => ?_⟩⟩
  have hadd : (⟨b, 0, none⟩ : Addr).add j = ⟨b, j, none⟩ := by unfold Addr.add; split <;> simp_all
  rw [hadd, cell_blk hb]
  match j, hj with
  | 0, _ => rfl
theorem row1_i {w : World} {b t : Nat} {x : Int} (hb : w.heap[b]? = some (.cells #[.int .i64 x] t (0, 0))) : Kd.C (Kd.int .i64) w (some ⟨b, 0, none⟩) 1 [x] := by
  refine Kd.C_of_reads (enc := fun x => Value.int .i64 x) (d := (0:Int)) (h1 := fun _ => rfl) ⟨rfl, by omega, fun _ => ⟨_, rfl, fun j hj => ?_⟩⟩
  have hadd : (⟨b, 0, none⟩ : Addr).add j = ⟨b, j, none⟩ := by unfold Addr.add; split <;> simp_all
  rw [hadd, cell_blk hb]
  match j, hj with
  | 0, _ => rfl
def oddCells : Array Value := madeCells (Value.int .u8 0).cells (257 * 1)
theorem odd_row (W : World) : (Instr.makeSlice 30 (.int .i64 257) (.int .i64 257)).run Try.prog W = .ok (.slice (some ⟨W.heap.size, 0, none⟩) 257 257) (W.alloc (.cells oddCells 5)) := by
  have hinfo : (Try.prog.info? 5).map (fun i => (i.zero, i.size, i.bytes)) = some (some (.int .u8 0), 1, 1) := by kernel_rfl
  cases hi : Try.prog.info? 5 with
  | none => rw [hi] at hinfo; simp at hinfo
  | some i =>
    rw [hi] at hinfo
    simp only [Option.map_some, Option.some.injEq, Prod.mk.injEq] at hinfo
    obtain ⟨hz, hs, hb⟩ := hinfo
    have hr := run_make (P := Try.prog) W 30 5 i (.int .u8 0) Try.underlying30 hi hz .i64 .i64 257 257 (by omega) (Int.le_refl _) (by rw [hb]; omega) (by omega)
    rw [hs] at hr
    exact hr
theorem blk7_len : (blockOf [7]).length = 256 := block_len _
def a0 : Dk := blankD 16
def a1 : Dk := (writeD a0 3 (blockOf [7])).1
def a2 : Dk := crashD a1 [5]
def a3 : Dk := readD a2
def a4 : Dk := stopD a3 0
def a5 : Dk := deedD a4
theorem k0 : ready a0 3 = 0 := by kernel_rfl
theorem k1 : (writeD a0 3 (blockOf [7])).2 = 0 := by kernel_rfl
theorem k2 : ready a2 3 = 0 := by kernel_rfl
theorem k3 : a2.waits.length = 0 := by kernel_rfl
theorem k4 : ready a3 16 = 10 := by kernel_rfl
theorem k5 : ready a3 3 = 0 := by kernel_rfl
theorem k6 : ready a4 0 = 0 := by kernel_rfl
theorem k7 : a4.left = 0 := by kernel_rfl
theorem k8 : ready a5 0 = 9 := by kernel_rfl
theorem k9 : a5.off = true ∧ a5.reads = 1 ∧ a5.writes = 1 ∧ a5.flushes = 0 := ⟨by kernel_rfl, by kernel_rfl, by kernel_rfl, by kernel_rfl⟩
theorem n0 : rd (nowD a2 3) 0 = 7 := by kernel_rfl
theorem n1 : rd (nowD a2 3) 64 = 0 := by kernel_rfl
theorem n2 : rd (nowD a2 3) 128 = 7 := by kernel_rfl
theorem n3 : rd (nowD a2 3) 192 = 0 := by kernel_rfl

theorem R_FP {α : Type} {d : Kd α} {e : Nat} {w w' : World} {base base' db sb : Nat} {ok : Nat → Prop} {v : Value} {xs : List α} (h : d.R e w base' ok v xs) (hd : db < base') (hs : sb < base') (hw : ∀ q, q ∈ e :: d.E → q ≠ 77) (f : FP base db sb w w') : d.R e w' base' ok v xs :=
  Kd.R_mono (Kd.R_step (Kd.R_bound h) (fun k hk hlt => by
    obtain ⟨_, hb, _, q, hq, cells, hc⟩ := hk
    exact f.block k hlt (by rintro (h | h) <;> omega) (fun c t fz hc' => by rw [hc] at hc'; cases hc'; exact fun h => hw q hq h.2))) (fun _ hk => hk.1)
/-- What lay there ahead of the disk lies there. -/
theorem FP.low {base db sb : Nat} {w w' : World} (f : FP base db sb w w') (hd : base ≤ db) (hs : base ≤ sb) (k : Nat) (hk : k < base) (hw : base ≤ w.heap.size) : w'.heap[k]? = w.heap[k]? :=
  f.block k (by omega) (by rintro (h | h) <;> omega) (fun _ _ _ _ h => by omega)
theorem FP.below {base db sb : Nat} {w w' : World} (f : FP base db sb w w') (hd : base ≤ db) (hs : base ≤ sb) (hw : base ≤ w.heap.size) : Below base w w' := ⟨f.os, f.tape, f.output, f.size, fun k hk => f.low hd hs k hk hw⟩
theorem row_at {w : World} {base : Nat} {ok : Nat → Prop} {A : Option Addr} {l c : Nat} {xs : List Int} (h : Kd.R (Kd.int .u8) 5 w base ok (.slice A l c) xs) : Kd.C (Kd.int .u8) w A xs.length xs := (Kd.R_reads' h).2.2
set_option maxHeartbeats 8000000 in
set_option maxRecDepth 100000 in
theorem awake_any (w : World) : Calls Try.prog 9 #[] w fun e w' => e = .returned (.bool true) ∧ Below w.heap.size w w' := by
  have hmk := odd_row
  go_enter Try.func9, Try.ntmps9
  go_wp2_with fail
  refine (blank_yes 16 w (by omega)).mono ?_
  rintro e w1 ⟨db, sb, rfl, p1, b1⟩
  have HP := Aside0.mk (show PD w1 w.heap.size db sb a0 from p1)
  have HB := Aside0.mk b1
  have HLO := Aside0.mk (show w.heap.size ≤ db ∧ w.heap.size ≤ sb by obtain ⟨_, _, _, h⟩ := p1; exact ⟨h.dbase, h.sbase⟩)
  clear p1 b1
  go_wp2_with fail
  refine (blank_no 15 w1 (by omega)).mono ?_
  rintro e w2 ⟨rfl, b⟩
  replace HP := Aside0.mk (HP.out.below b)
  replace HB := Aside0.mk (HB.out.trans (b.mono HB.out.size))
  clear b
  go_wp2_with fail
  replace HP := Aside0.mk (HP.out.below ((Below.refl _ _).alloc (Nat.le_refl _) (.cells oddCells 5)))
  replace HB := Aside0.mk (HB.out.trans (((Below.refl _ _).alloc (Nat.le_refl _) (.cells oddCells 5)).mono HB.out.size))
  refine (load_odd _ 257 257 (by decide)).mono ?_
  rintro e w3 ⟨rfl, rfl⟩
  obtain ⟨w3, hw3⟩ : ∃ w3, w3 = w2.alloc (.cells oddCells 5) := ⟨_, rfl⟩
  rw [← hw3] at HP HB ⊢
  clear hw3 hmk
  go_wp2_with fail
  have hq := heap_alloc_new w3 (.cells #[.int .u8 7] 5)
  replace HP := Aside0.mk (HP.out.below ((Below.refl _ _).alloc (Nat.le_refl _) (.cells #[.int .u8 7] 5)))
  replace HB := Aside0.mk (HB.out.trans (((Below.refl _ _).alloc (Nat.le_refl _) (.cells #[.int .u8 7] 5)).mono HB.out.size))
  refine (Block_any (some ⟨w3.heap.size, 0, none⟩) 1 [7] (row1_8 hq) (Nat.le_refl _)).mono ?_
  rintro e w4 ⟨a, c, rfl, hc, hr, b⟩
  replace HP := Aside0.mk (HP.out.below b)
  replace HB := Aside0.mk (HB.out.trans (b.mono HB.out.size))
  have HR := Aside0.mk hr
  clear hq b hr
  go_wp2_with fail
  have hwr := write_yes HP.out 3 k0 a c (blockOf [7]) blk7_len (block_mem _ (by decide)) (fun x hx => by rw [blk7_len]; have := (Kd.R_reads' (Kd.R_below HR.out hx)).2.2; rw [blk7_len] at this; exact this) (by decide)
  rw [blk7_len] at hwr
  refine hwr.mono ?_
  rintro e w5 ⟨rfl, p5, f5⟩
  rw [k1]
  replace HP := Aside0.mk (show PD w5 w.heap.size db sb a1 from p5)
  replace HB := Aside0.mk (HB.out.trans (f5.below HLO.out.1 HLO.out.2 HB.out.size))
  clear hwr p5 f5 HR
  go_wp2_with fail
  have hq := heap_alloc_new w5 (.cells #[.int .i64 5] 3)
  have hsb : sb < w5.heap.size := by obtain ⟨_, _, _, h⟩ := HP.out; exact blk_lt h.safe
  replace HP := Aside0.mk (HP.out.below ((Below.refl _ _).alloc (Nat.le_refl _) (.cells #[.int .i64 5] 3)))
  replace HB := Aside0.mk (HB.out.trans (((Below.refl _ _).alloc (Nat.le_refl _) (.cells #[.int .i64 5] 3)).mono HB.out.size))
  refine (crash_any HP.out (some ⟨w5.heap.size, 0, none⟩) 1 [5] (row1_i hq) (Nat.le_refl _) (fun x hx => row1_i ((hx.block _ (blk_lt hq) (by omega) (fun _ _ _ _ h => h)).trans hq))).mono ?_
  rintro e w6 ⟨⟨v6, rfl⟩, p6, f6⟩
  replace HP := Aside0.mk (show PD w6 w.heap.size db sb a2 from p6)
  replace HB := Aside0.mk (HB.out.trans (f6.below HLO.out.1 HLO.out.2 HB.out.size))
  clear hq hsb p6 f6
  go_wp2_with fail
  refine (read_yes HP.out 3 k2 (by rw [k3]; omega)).mono ?_
  rintro e w7 ⟨v7, rfl, hr7, p7, f7⟩
  have hlt : db < w6.heap.size ∧ sb < w6.heap.size := by obtain ⟨_, _, _, h⟩ := HP.out; exact ⟨blk_lt h.cells, blk_lt h.safe⟩
  obtain ⟨A7, c7, rfl⟩ := Kd.R_slice hr7
  replace HP := Aside0.mk (show PD w7 w.heap.size db sb a3 from p7)
  have HR := Aside0.mk hr7
  replace HB := Aside0.mk (HB.out.trans (f7.below HLO.out.1 HLO.out.2 HB.out.size))
  clear p7 f7 hr7
  go_wp2_with fail
  refine (Block_any none 0 [] ?cb (Nat.le_refl _)).mono ?_
  case cb => exact ⟨rfl, by decide, fun h => absurd h (by decide)⟩
  rintro e w8 ⟨a8, c8, rfl, _, _, b⟩
  replace HP := Aside0.mk (HP.out.below b)
  replace HB := Aside0.mk (HB.out.trans (b.mono HB.out.size))
  replace HR := Aside0.mk (Kd.R_below HR.out b)
  clear b
  go_wp2_with fail
  refine (write_no HP.out 16 (by rw [k4]; decide) (some a8) 256 c8).mono ?_
  rintro e w9 ⟨rfl, rfl⟩
  rw [k4]
  go_wp2_with fail
  refine (write_size HP.out 3 k5 none 0 0 (by decide)).mono ?_
  rintro e w9 ⟨rfl, rfl⟩
  go_wp2_with fail
  refine (stop_any 0 HP.out (by decide)).mono ?_
  rintro e w10 ⟨rfl, p, f⟩
  replace HP := Aside0.mk (show PD w10 w.heap.size db sb a4 from p)
  replace HR := Aside0.mk (R_FP HR.out hlt.1 hlt.2 (by decide) f)
  replace HB := Aside0.mk (HB.out.trans (f.below HLO.out.1 HLO.out.2 HB.out.size))
  clear p f
  go_wp2_with fail
  refine (flush_stop HP.out k6 k7).mono ?_
  rintro e w11 ⟨rfl, p, f⟩
  replace HP := Aside0.mk (show PD w11 w.heap.size db sb a5 from p)
  replace HR := Aside0.mk (R_FP HR.out hlt.1 hlt.2 (by decide) f)
  replace HB := Aside0.mk (HB.out.trans (f.below HLO.out.1 HLO.out.2 HB.out.size))
  clear p f
  go_wp2_with fail
  refine (flush_no HP.out (by rw [k8]; decide)).mono ?_
  rintro e w12 ⟨rfl, rfl⟩
  rw [k8]
  have hnl : (nowD a2 3).length = 256 := by kernel_rfl
  have hC := row_at HR.out
  obtain ⟨gb, rfl⟩ : ∃ g, A7 = some ⟨g, 0, none⟩ := by
    obtain ⟨inner, ho⟩ := Kd.R_own HR.out
    rcases ho.2 with ⟨_, hz⟩ | ⟨g, cap, cur, h, _⟩
    · rw [hnl] at hz; omega
    · cases h
      exact ⟨_, rfl⟩
  have g0 : w12.cell? ⟨gb, 0, none⟩ = some (.int .u8 7) := by
    obtain ⟨_, h1, g1⟩ := Kd.at_int hC 0 (by decide) (by rw [hnl]; decide)
    cases h1
    rw [n0] at g1
    exact g1
  have g1 : w12.cell? ⟨gb, 64, none⟩ = some (.int .u8 0) := by
    obtain ⟨_, h1, g1⟩ := Kd.at_int hC 64 (by decide) (by rw [hnl]; decide)
    cases h1
    rw [n1] at g1
    exact g1
  have g2 : w12.cell? ⟨gb, 128, none⟩ = some (.int .u8 7) := by
    obtain ⟨_, h1, g1⟩ := Kd.at_int hC 128 (by decide) (by rw [hnl]; decide)
    cases h1
    rw [n2] at g1
    exact g1
  have g3 : w12.cell? ⟨gb, 192, none⟩ = some (.int .u8 0) := by
    obtain ⟨_, h1, g1⟩ := Kd.at_int hC 192 (by decide) (by rw [hnl]; decide)
    cases h1
    rw [n3] at g1
    exact g1
  rw [hnl]
  clear hC hnl
  go_wp2_with fail
  refine (off_any HP.out).mono ?_
  rintro e w13 ⟨rfl, rfl⟩
  rw [k9.1]
  go_wp2_with fail
  refine (stat_any HP.out).mono ?_
  rintro e w14 ⟨rfl, b⟩
  rw [k9.2.1, k9.2.2.1, k9.2.2.2]
  replace HP := Aside0.mk (HP.out.below b)
  replace HB := Aside0.mk (HB.out.trans (b.mono HB.out.size))
  clear b
  go_wp2_with fail
  refine (stop_any (-1) HP.out (by decide)).mono ?_
  rintro e w15 ⟨rfl, p, f⟩
  replace HB := Aside0.mk (HB.out.trans (f.below HLO.out.1 HLO.out.2 HB.out.size))
  clear p f
  go_wp2_with fail
  go_ret
  exact ⟨rfl, HB.out⟩
end Disk
end Go.Proofs.Ytooemgcijbdilaa
