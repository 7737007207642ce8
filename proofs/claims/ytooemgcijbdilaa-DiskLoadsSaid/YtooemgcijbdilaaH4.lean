/- The disk: awake; torn blocks. -/
import Derived.Test.YtooemgcijbdilaaH3
namespace Go.Proofs.Ytooemgcijbdilaa
set_option linter.unusedVariables false
set_option linter.unusedSimpArgs false
open Go.RowKit Go.Proofs.YtooemgcijbdilaaW.PrintWords Go.Proofs.YtooemgcijbdilaaW.PrintLast Go.Proofs.YtooemgcijbdilaaW.PrintMore
namespace Disk
open Go.Disk PDiskDoes
theorem row1_8 {w : World} {b t : Nat} {x : Int} (hb : w.heap[b]? = some (.cells #[.int .u8 x] t (0, 0))) : Kd.C (Kd.int .u8) w (some ⟨b, 0, none⟩) 1 [x] := by
  refine Kd.C_of_reads (enc := fun x => Value.int .u8 x) (d := (0:Int)) (h1 := fun _ => rfl) ⟨rfl, by omega, fun _ => ⟨_, rfl, fun j hj => ?_⟩⟩
  have hadd : (⟨b, 0, none⟩ : Addr).add j = ⟨b, j, none⟩ := by unfold Addr.add; split <;> simp_all
  rw [hadd, cell_blk hb]
  match j, hj with
  | 0, _ => rfl
theorem row1_i {w : World} {b t : Nat} {x : Int} (hb : w.heap[b]? = some (.cells #[.int .i64 x] t (0, 0))) : Kd.C (Kd.int .i64) w (some ⟨b, 0, none⟩) 1 [x] := by
  refine Kd.C_of_reads (enc := fun x => Value.int .i64 x) (d := (0:Int)) (h1 := fun _ => rfl) ⟨rfl, by omega, fun _ => ⟨_, rfl, fun j hj => ?_⟩⟩
  have hadd : (⟨b, 0, none⟩ : Addr).add j = ⟨b, j, none⟩ := by unfold Addr.add; split <;> simp_all
  rw [hadd, cell_blk hb]
  match j, hj with
  | 0, _ => rfl
def oddCells : Array Value := madeCells (Value.int .u8 0).cells (257 * 1)
theorem odd_row (W : World) : (Instr.makeSlice 30 (.int .i64 257) (.int .i64 257)).run Try.prog W = .ok (.slice (some ⟨W.heap.size, 0, none⟩) 257 257) (W.alloc (.cells oddCells 5)) := by
  have hinfo : (Try.prog.info? 5).map (fun i => (i.zero, i.size, i.bytes)) = some (some (.int .u8 0), 1, 1) := by kernel_rfl
  cases hi : Try.prog.info? 5 with
  | none => rw [hi] at hinfo; simp at hinfo
  | some i =>
    rw [hi] at hinfo
    simp only [Option.map_some, Option.some.injEq, Prod.mk.injEq] at hinfo
    obtain ⟨hz, hs, hb⟩ := hinfo
    have hr := run_make (P := Try.prog) W 30 5 i (.int .u8 0) Try.underlying30 hi hz .i64 .i64 257 257 (by omega) (Int.le_refl _) (by rw [hb]; omega) (by omega)
    rw [hs] at hr
    exact hr
theorem blk7_len : (blockOf [7]).length = 256 := block_len _
def a0 : Dk := blankD 16
def a1 : Dk := (writeD a0 3 (blockOf [7])).1
def a2 : Dk := crashD a1 [5]
def a3 : Dk := readD a2
def a4 : Dk := stopD a3 0
def a5 : Dk := deedD a4
theorem k0 : ready a0 3 = 0 := by kernel_rfl
theorem k1 : (writeD a0 3 (blockOf [7])).2 = 0 := by kernel_rfl
theorem k2 : ready a2 3 = 0 := by kernel_rfl
theorem k3 : a2.waits.length = 0 := by kernel_rfl
theorem k4 : ready a3 16 = 10 := by kernel_rfl
theorem k5 : ready a3 3 = 0 := by kernel_rfl
theorem k6 : ready a4 0 = 0 := by kernel_rfl
theorem k7 : a4.left = 0 := by kernel_rfl
theorem k8 : ready a5 0 = 9 := by kernel_rfl
theorem k9 : a5.off = true ∧ a5.reads = 1 ∧ a5.writes = 1 ∧ a5.flushes = 0 := ⟨by kernel_rfl, by kernel_rfl, by kernel_rfl, by kernel_rfl⟩
theorem n0 : rd (nowD a2 3) 0 = 7 := by kernel_rfl
theorem n1 : rd (nowD a2 3) 64 = 0 := by kernel_rfl
theorem n2 : rd (nowD a2 3) 128 = 7 := by kernel_rfl
theorem n3 : rd (nowD a2 3) 192 = 0 := by kernel_rfl

theorem R_FP {α : Type} {d : Kd α} {e : Nat} {w w' : World} {base base' db sb : Nat} {ok : Nat → Prop} {v : Value} {xs : List α} (h : d.R e w base' ok v xs) (hd : db < base') (hs : sb < base') (hw : ∀ q, q ∈ e :: d.E → q ≠ 77) (f : FP base db sb w w') : d.R e w' base' ok v xs :=
  Kd.R_mono (Kd.R_step (Kd.R_bound h) (fun k hk hlt => by
    obtain ⟨_, hb, _, q, hq, cells, hc⟩ := hk
    exact f.block k hlt (by rintro (h | h) <;> omega) (fun c t fz hc' => by rw [hc] at hc'; cases hc'; exact fun h => hw q hq h.2))) (fun _ hk => hk.1)
/-- What lay there ahead of the disk lies there. -/
theorem FP.low {base db sb : Nat} {w w' : World} (f : FP base db sb w w') (hd : base ≤ db) (hs : base ≤ sb) (k : Nat) (hk : k < base) (hw : base ≤ w.heap.size) : w'.heap[k]? = w.heap[k]? :=
  f.block k (by omega) (by rintro (h | h) <;> omega) (fun _ _ _ _ h => by omega)
theorem FP.below {base db sb : Nat} {w w' : World} (f : FP base db sb w w') (hd : base ≤ db) (hs : base ≤ sb) (hw : base ≤ w.heap.size) : Below base w w' := ⟨f.os, f.tape, f.output, f.size, fun k hk => f.low hd hs k hk hw⟩
theorem row_at {w : World} {base : Nat} {ok : Nat → Prop} {A : Option Addr} {l c : Nat} {xs : List Int} (h : Kd.R (Kd.int .u8) 5 w base ok (.slice A l c) xs) : Kd.C (Kd.int .u8) w A xs.length xs := (Kd.R_reads' h).2.2
set_option maxHeartbeats 8000000 in
set_option maxRecDepth 100000 in
theorem awake_any (w : World) : Calls Try.prog 9 #[] w fun e w' => e = .returned (.bool true) ∧ Below w.heap.size w w' := by
  have hmk := odd_row
  go_enter Try.func9, Try.ntmps9
  go_wp2_with fail
  refine (blank_yes 16 w (by omega)).mono ?_
  rintro e w1 ⟨db, sb, rfl, p1, b1⟩
  have HP := Aside0.mk (show PD w1 w.heap.size db sb a0 from p1)
  have HB := Aside0.mk b1
  have HLO := Aside0.mk (show w.heap.size ≤ db ∧ w.heap.size ≤ sb by obtain ⟨_, _, _, h⟩ := p1; exact ⟨h.dbase, h.sbase⟩)
  clear p1 b1
  go_wp2_with fail
  refine (blank_no 15 w1 (by omega)).mono ?_
  rintro e w2 ⟨rfl, b⟩
  replace HP := Aside0.mk (HP.out.below b)
  replace HB := Aside0.mk (HB.out.trans (b.mono HB.out.size))
  clear b
  go_wp2_with fail
  replace HP := Aside0.mk (HP.out.below ((Below.refl _ _).alloc (Nat.le_refl _) (.cells oddCells 5)))
  replace HB := Aside0.mk (HB.out.trans (((Below.refl _ _).alloc (Nat.le_refl _) (.cells oddCells 5)).mono HB.out.size))
  refine (load_odd _ 257 257 (by decide)).mono ?_
  rintro e w3 ⟨rfl, rfl⟩
  obtain ⟨w3, hw3⟩ : ∃ w3, w3 = w2.alloc (.cells oddCells 5) := ⟨_, rfl⟩
  rw [← hw3] at HP HB ⊢
  clear hw3 hmk
  go_wp2_with fail
  have hq := heap_alloc_new w3 (.cells #[.int .u8 7] 5)
  replace HP := Aside0.mk (HP.out.below ((Below.refl _ _).alloc (Nat.le_refl _) (.cells #[.int .u8 7] 5)))
  replace HB := Aside0.mk (HB.out.trans (((Below.refl _ _).alloc (Nat.le_refl _) (.cells #[.int .u8 7] 5)).mono HB.out.size))
  refine (Block_any (some ⟨w3.heap.size, 0, none⟩) 1 [7] (row1_8 hq) (Nat.le_refl _)).mono ?_
  rintro e w4 ⟨a, c, rfl, hc, hr, b⟩
  replace HP := Aside0.mk (HP.out.below b)
  replace HB := Aside0.mk (HB.out.trans (b.mono HB.out.size))
  have HR := Aside0.mk hr
  clear hq b hr
  go_wp2_with fail
  have hwr := write_yes HP.out 3 k0 a c (blockOf [7]) blk7_len (block_mem _ (by decide)) (fun x hx => by rw [blk7_len]; have := (Kd.R_reads' (Kd.R_below HR.out hx)).2.2; rw [blk7_len] at this; exact this) (by decide)
  rw [blk7_len] at hwr
  refine hwr.mono ?_
  rintro e w5 ⟨rfl, p5, f5⟩
  rw [k1]
  replace HP := Aside0.mk (show PD w5 w.heap.size db sb a1 from p5)
  replace HB := Aside0.mk (HB.out.trans (f5.below HLO.out.1 HLO.out.2 HB.out.size))
  clear hwr p5 f5 HR
  go_wp2_with fail
  have hq := heap_alloc_new w5 (.cells #[.int .i64 5] 3)
  have hsb : sb < w5.heap.size := by obtain ⟨_, _, _, h⟩ := HP.out; exact blk_lt h.safe
  replace HP := Aside0.mk (HP.out.below ((Below.refl _ _).alloc (Nat.le_refl _) (.cells #[.int .i64 5] 3)))
  replace HB := Aside0.mk (HB.out.trans (((Below.refl _ _).alloc (Nat.le_refl _) (.cells #[.int .i64 5] 3)).mono HB.out.size))
  refine (crash_any HP.out (some ⟨w5.heap.size, 0, none⟩) 1 [5] (row1_i hq) (Nat.le_refl _) (fun x hx => row1_i ((hx.block _ (blk_lt hq) (by omega) (fun _ _ _ _ h => h)).trans hq))).mono ?_
  rintro e w6 ⟨⟨v6, rfl⟩, p6, f6⟩
  replace HP := Aside0.mk (show PD w6 w.heap.size db sb a2 from p6)
  replace HB := Aside0.mk (HB.out.trans (f6.below HLO.out.1 HLO.out.2 HB.out.size))
  clear hq hsb p6 f6
  go_wp2_with fail
  refine (read_yes HP.out 3 k2 (by rw [k3]; omega)).mono ?_
  rintro e w7 ⟨v7, rfl, hr7, p7, f7⟩
  have hlt : db < w6.heap.size ∧ sb < w6.heap.size := by obtain ⟨_, _, _, h⟩ := HP.out; exact ⟨blk_lt h.cells, blk_lt h.safe⟩
  obtain ⟨A7, c7, rfl⟩ := Kd.R_slice hr7
  replace HP := Aside0.mk (show PD w7 w.heap.size db sb a3 from p7)
  have HR := Aside0.mk hr7
  replace HB := Aside0.mk (HB.out.trans (f7.below HLO.out.1 HLO.out.2 HB.out.size))
  clear p7 f7 hr7
  go_wp2_with fail
  refine (Block_any none 0 [] ?cb (Nat.le_refl _)).mono ?_
  case cb => exact ⟨rfl, by decide, fun h => absurd h (by decide)⟩
  rintro e w8 ⟨a8, c8, rfl, _, _, b⟩
  replace HP := Aside0.mk (HP.out.below b)
  replace HB := Aside0.mk (HB.out.trans (b.mono HB.out.size))
  replace HR := Aside0.mk (Kd.R_below HR.out b)
  clear b
  go_wp2_with fail
  refine (write_no HP.out 16 (by rw [k4]; decide) (some a8) 256 c8).mono ?_
  rintro e w9 ⟨rfl, rfl⟩
  rw [k4]
  go_wp2_with fail
  refine (write_size HP.out 3 k5 none 0 0 (by decide)).mono ?_
  rintro e w9 ⟨rfl, rfl⟩
  go_wp2_with fail
  refine (stop_any 0 HP.out (by decide)).mono ?_
  rintro e w10 ⟨rfl, p, f⟩
  replace HP := Aside0.mk (show PD w10 w.heap.size db sb a4 from p)
  replace HR := Aside0.mk (R_FP HR.out hlt.1 hlt.2 (by decide) f)
  replace HB := Aside0.mk (HB.out.trans (f.below HLO.out.1 HLO.out.2 HB.out.size))
  clear p f
  go_wp2_with fail
  refine (flush_stop HP.out k6 k7).mono ?_
  rintro e w11 ⟨rfl, p, f⟩
  replace HP := Aside0.mk (show PD w11 w.heap.size db sb a5 from p)
  replace HR := Aside0.mk (R_FP HR.out hlt.1 hlt.2 (by decide) f)
  replace HB := Aside0.mk (HB.out.trans (f.below HLO.out.1 HLO.out.2 HB.out.size))
  clear p f
  go_wp2_with fail
  refine (flush_no HP.out (by rw [k8]; decide)).mono ?_
  rintro e w12 ⟨rfl, rfl⟩
  rw [k8]
  have hnl : (nowD a2 3).length = 256 := by kernel_rfl
  have hC := row_at HR.out
  obtain ⟨gb, rfl⟩ : ∃ g, A7 = some ⟨g, 0, none⟩ := by
    obtain ⟨inner, ho⟩ := Kd.R_own HR.out
    rcases ho.2 with ⟨_, hz⟩ | ⟨g, cap, cur, h, _⟩
    · rw [hnl] at hz; omega
    · cases h
      exact ⟨_, rfl⟩
  have g0 : w12.cell? ⟨gb, 0, none⟩ = some (.int .u8 7) := by
    obtain ⟨_, h1, g1⟩ := Kd.at_int hC 0 (by decide) (by rw [hnl]; decide)
    cases h1
    rw [n0] at g1
    exact g1
  have g1 : w12.cell? ⟨gb, 64, none⟩ = some (.int .u8 0) := by
    obtain ⟨_, h1, g1⟩ := Kd.at_int hC 64 (by decide) (by rw [hnl]; decide)
    cases h1
    rw [n1] at g1
    exact g1
  have g2 : w12.cell? ⟨gb, 128, none⟩ = some (.int .u8 7) := by
    obtain ⟨_, h1, g1⟩ := Kd.at_int hC 128 (by decide) (by rw [hnl]; decide)
    cases h1
    rw [n2] at g1
    exact g1
  have g3 : w12.cell? ⟨gb, 192, none⟩ = some (.int .u8 0) := by
    obtain ⟨_, h1, g1⟩ := Kd.at_int hC 192 (by decide) (by rw [hnl]; decide)
    cases h1
    rw [n3] at g1
    exact g1
  rw [hnl]
  clear hC hnl
  go_wp2_with fail
  refine (off_any HP.out).mono ?_
  rintro e w13 ⟨rfl, rfl⟩
  rw [k9.1]
  go_wp2_with fail
  refine (stat_any HP.out).mono ?_
  rintro e w14 ⟨rfl, b⟩
  rw [k9.2.1, k9.2.2.1, k9.2.2.2]
  replace HP := Aside0.mk (HP.out.below b)
  replace HB := Aside0.mk (HB.out.trans (b.mono HB.out.size))
  clear b
  go_wp2_with fail
  refine (stop_any (-1) HP.out (by decide)).mono ?_
  rintro e w15 ⟨rfl, p, f⟩
  replace HB := Aside0.mk (HB.out.trans (f.below HLO.out.1 HLO.out.2 HB.out.size))
  clear p f
  go_wp2_with fail
  go_ret
  exact ⟨rfl, HB.out⟩
end Disk
end Go.Proofs.Ytooemgcijbdilaa
namespace Go.Proofs.Ytooemgcijbdilaa
set_option linter.unusedVariables false
set_option linter.unusedSimpArgs false
open Go.RowKit Go.Proofs.YtooemgcijbdilaaW.PrintWords Go.Proofs.YtooemgcijbdilaaW.PrintLast Go.Proofs.YtooemgcijbdilaaW.PrintMore
namespace Disk
open Go.Disk PDiskDoes
/-- A sector of a block. -/
def sec (k : Nat) (l : List Int) : List Int := (l.drop (64 * k)).take 64
theorem torn_get (on : Nat → Bool) (was bs : List Int) (hw : was.length = 256) (hb : bs.length = 256) : ∀ j, j ≤ 4 → ∀ i, i < 256 → (tornTo on was bs j)[i]? = if i / 64 < j ∧ on (i / 64) = true then bs[i]? else was[i]?
  | 0, _, i, hi => by simp [tornTo]
  | j + 1, hj, i, hi => by
    have ih := torn_get on was bs hw hb j (by omega)
    have hl := tornTo_len on was bs hw hb j (by omega)
    unfold tornTo
    by_cases ho : on j = true
    · rw [if_pos ho]
      by_cases h1 : i < 64 * j
      · rw [List.getElem?_append_left (by rw [List.length_take]; omega), List.getElem?_take_of_lt h1, ih i hi]
        have h2 : i / 64 < j := by omega
        simp [h2, show i / 64 < j + 1 by omega]
      · rw [List.getElem?_append_right (by rw [List.length_take]; omega), List.length_take, hl, Nat.min_eq_left (by omega)]
        by_cases h2 : i < 64 * j + 64
        · rw [List.getElem?_append_left (by rw [List.length_take, List.length_drop]; omega), List.getElem?_take_of_lt (by omega), List.getElem?_drop]
          have h3 : i / 64 = j := by omega
          rw [h3, show 64 * j + (i - 64 * j) = i by omega]
          simp [ho]
        · rw [List.getElem?_append_right (by rw [List.length_take, List.length_drop]; omega), List.length_take, List.length_drop, hb, Nat.min_eq_left (by omega), List.getElem?_drop, show 64 * j + 64 + (i - 64 * j - 64) = i by omega, ih i hi]
          have h3 : ¬ (i / 64 < j + 1) := by omega
          simp [h3, show ¬ (i / 64 < j) by omega]
    · rw [if_neg ho, ih i hi]
      by_cases h2 : i / 64 < j
      · simp [h2, show i / 64 < j + 1 by omega]
      · by_cases h3 : i / 64 = j
        · rw [h3]; simp [ho]
        · simp [h2, show ¬ (i / 64 < j + 1) by omega]
theorem sec_torn (on : Nat → Bool) (was bs : List Int) (hw : was.length = 256) (hb : bs.length = 256) (k : Nat) (hk : k < 4) : sec k (tornTo on was bs 4) = if on k = true then sec k bs else sec k was := by
  have h := torn_get on was bs hw hb 4 (Nat.le_refl _)
  have hl := tornTo_len on was bs hw hb 4 (Nat.le_refl _)
  apply List.ext_getElem?
  intro i
  by_cases hi : i < 64
  · have e : ∀ l : List Int, (sec k l)[i]? = l[64 * k + i]? := fun l => by unfold sec; rw [List.getElem?_take_of_lt hi, List.getElem?_drop]
    rw [e, h _ (by omega)]
    have h3 : (64 * k + i) / 64 = k := by omega
    rw [h3]
    by_cases ho : on k = true
    · simp [ho, hk, e]
    · simp [ho, e]
  · have e : ∀ l : List Int, (sec k l)[i]? = none := fun l => by unfold sec; exact List.getElem?_eq_none (by rw [List.length_take]; omega)
    rw [e]
    split <;> rw [e]
theorem sec_len (k : Nat) (hk : k < 4) (l : List Int) (h : l.length = 256) : (sec k l).length = 64 := by
  unfold sec
  rw [List.length_take, List.length_drop]
  omega
def tearsTo (ws : List (List Int)) (ms : List Int) : Nat → List Int
  | 0 => zblock
  | i + 1 => tornTo (onM (ms.getD i 0)) (tearsTo ws ms i) (blockOf (ws.getD i [])) 4
def wantTo (ws : List (List Int)) (ms : List Int) (k : Nat) : Nat → List Int
  | 0 => blockOf []
  | i + 1 => if onM (ms.getD i 0) k = true then blockOf (ws.getD i []) else wantTo ws ms k i
theorem tears_len (ws : List (List Int)) (ms : List Int) : ∀ i, (tearsTo ws ms i).length = 256
  | 0 => zblock_len
  | i + 1 => tornTo_len _ _ _ (tears_len ws ms i) (block_len _) 4 (Nat.le_refl _)
theorem want_len (ws : List (List Int)) (ms : List Int) (k : Nat) : ∀ i, (wantTo ws ms k i).length = 256
  | 0 => block_len _
  | i + 1 => by
    unfold wantTo
    split
    · exact block_len _
    · exact want_len ws ms k i
theorem sec_want (ws : List (List Int)) (ms : List Int) (k : Nat) (hk : k < 4) : ∀ i, sec k (tearsTo ws ms i) = sec k (wantTo ws ms k i)
  | 0 => by
    have : zblock = blockOf [] := by unfold blockOf; rfl
    show sec k zblock = sec k (blockOf [])
    rw [this]
  | i + 1 => by
    have ih := sec_want ws ms k hk i
    unfold tearsTo wantTo
    rw [sec_torn _ _ _ (tears_len ws ms i) (block_len _) k hk, ih]
    split <;> rfl
/-- The disk behind the writes. -/
def tD (n : Int) (ws : List (List Int)) : Dk := { blankD 16 with waits := ws.map (fun b => (n, blockOf b)), writes := ws.length }
theorem tD_nil (n : Int) : tD n [] = blankD 16 := rfl
theorem tD_ready (n : Int) (ws : List (List Int)) (hn : 0 ≤ n ∧ n ≤ 15) : ready (tD n ws) n = 0 := by
  unfold ready
  rw [if_neg (by show ¬ (false = true); simp), if_neg]
  show ¬ (n < 0 ∨ ((zeros 16).length : Int) ≤ n)
  rw [zeros_size]
  omega
theorem tD_next (n : Int) (ws : List (List Int)) (b : List Int) (hn : 0 ≤ n ∧ n ≤ 15) (hl : ws.length ≤ 20) : writeD (tD n ws) n (blockOf b) = (tD n (ws ++ [b]), 0) := by
  unfold writeD
  rw [tD_ready n ws hn, if_neg (by simp), if_neg (by rw [block_len]; simp), if_neg (by show ¬ ((-1 : Int) = 0); omega)]
  have hw : wrap64 ((tD n ws).writes + 1) = (ws.length : Int) + 1 := wrap_id ((ws.length : Int) + 1) (by omega) (by omega)
  rw [hw]
  unfold deedD
  rw [if_neg (by show ¬ ((-1 : Int) = 0); omega)]
  have hm : max ((-1 : Int) - 1) (-1) = -1 := by decide
  have h1 : (ws ++ [b]).map (fun b => (n, blockOf b)) = ws.map (fun b => (n, blockOf b)) ++ [(n, blockOf b)] := by rw [List.map_append]; rfl
  have h2 : ((ws ++ [b]).length : Int) = (ws.length : Int) + 1 := by rw [List.length_append]; rfl
  unfold tD waitD blankD
  simp only [h1, h2, hm]
theorem tears_safe (n : Int) (ws : List (List Int)) (ms : List Int) (hn : 0 ≤ n ∧ n ≤ 15) : ∀ i, i ≤ ws.length → i ≤ ms.length → (crashTo (tD n ws) ((tD n ws).waits.take i) (ms.take i)).safe = (zeros 16).set n.toNat (tearsTo ws ms i)
  | 0, _, _ => by
    show (zeros 16) = (zeros 16).set n.toNat zblock
    have hlt : n.toNat < (zeros 16).length := by rw [zeros_size]; omega
    have : (zeros 16)[n.toNat] = zblock := by unfold zeros; exact List.getElem_replicate _
    rw [← this, List.set_getElem_self]
  | i + 1, h1, h2 => by
    have ih := tears_safe n ws ms hn i (by omega) (by omega)
    have hwl : (tD n ws).waits.length = ws.length := by simp [tD]
    rw [crashTo_next _ _ _ i (by omega) (by omega)]
    have e : (tD n ws).waits[i]'(by omega) = (n, blockOf ws[i]) := by simp [tD]
    rw [e]
    show ((crashTo (tD n ws) ((tD n ws).waits.take i) (ms.take i)).safe.set n.toNat (tornTo (onM ms[i]) ((crashTo (tD n ws) ((tD n ws).waits.take i) (ms.take i)).safe.getD n.toNat []) (blockOf ws[i]) 4)) = _
    rw [ih, List.set_set]
    have hlt : n.toNat < (zeros 16).length := by rw [zeros_size]; omega
    have hg : ((zeros 16).set n.toNat (tearsTo ws ms i)).getD n.toNat [] = tearsTo ws ms i := by simp [List.getD_eq_getElem?_getD, hlt]
    rw [hg]
    have e1 : ms.getD i 0 = ms[i] := by simp [List.getD_eq_getElem?_getD, show i < ms.length by omega]
    have e2 : ws.getD i [] = ws[i] := by simp [List.getD_eq_getElem?_getD, show i < ws.length by omega]
    rw [show tearsTo ws ms (i + 1) = tornTo (onM (ms.getD i 0)) (tearsTo ws ms i) (blockOf (ws.getD i [])) 4 from rfl, e1, e2]
theorem tears_now (n : Int) (ws : List (List Int)) (ms : List Int) (hn : 0 ≤ n ∧ n ≤ 15) : nowD (crashD (tD n ws) ms) n = tearsTo ws ms (min ws.length ms.length) := by
  have hwl : (tD n ws).waits.length = ws.length := by simp [tD]
  have h := tears_safe n ws ms hn (min ws.length ms.length) (by omega) (by omega)
  rw [crashTo_all _ _ _ _ (by rw [hwl])] at h
  unfold nowD
  show ((crashTo (tD n ws) (tD n ws).waits ms).safe.getD n.toNat []) = _
  rw [h]
  have hlt : n.toNat < (zeros 16).length := by rw [zeros_size]; omega
  simp [List.getD_eq_getElem?_getD, hlt]
theorem tears_ready (n : Int) (ws : List (List Int)) (ms : List Int) (hn : 0 ≤ n ∧ n ≤ 15) : ready (crashD (tD n ws) ms) n = 0 := by
  unfold ready
  rw [if_neg (by show ¬ (false = true); simp), if_neg]
  show ¬ (n < 0 ∨ ((crashTo (tD n ws) (tD n ws).waits ms).safe.length : Int) ≤ n)
  rw [(crashTo_safe _ _ _).1]
  show ¬ (n < 0 ∨ ((zeros 16).length : Int) ≤ n)
  rw [zeros_size]
  omega
end Disk
end Go.Proofs.Ytooemgcijbdilaa
