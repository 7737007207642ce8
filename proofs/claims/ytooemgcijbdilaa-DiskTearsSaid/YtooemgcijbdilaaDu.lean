/- DiskTears: the walk. -/
import Derived.Test.YtooemgcijbdilaaDt
import Derived.Below
import Derived.Lib.Hide
import Derived.OwnWalk
import Derived.WalkKit
import Derived.KernelRfl
import Derived.RowKit3
import Derived.Deep.LoopGhost
import Derived.Deep.QuietTactic
import Derived.BigQuiet
import Derived.WideLaws
import Derived.Great.BuildSlice
import Derived.Outline
import Derived.Deep.DeepCutAuto
import Derived.WalkSpells
import Derived.RegionTactic
import Derived.BigRegion
import Derived.WalkLawsBesides
namespace Go.Proofs.Ytooemgcijbdilaa
set_option linter.unusedVariables false
set_option linter.unusedSimpArgs false
open Go.RowKit Go.Proofs.YtooemgcijbdilaaW.PrintWords Go.Proofs.YtooemgcijbdilaaW.PrintLast Go.Proofs.YtooemgcijbdilaaW.PrintMore
namespace Disk
open Go.Disk PDiskDoes

theorem at_rows {α : Type} {d : Kd α} {e : Nat} {w : World} {A : Option Addr} {n : Nat} {xs : List (List α)} (h : Kd.C (Kd.slice e d) w A n xs) (i : Nat) (hi : i < xs.length) :
    ∃ ad A' c', A = some ad ∧ w.cell? (ad.add i) = some (.slice A' xs[i].length c') ∧ xs[i].length ≤ c' ∧ Kd.C d w A' xs[i].length xs[i] := by
  obtain ⟨h0, h1, h2⟩ := h
  obtain ⟨ad, ha, hc⟩ := h2 (by omega)
  obtain ⟨cs, hl, ⟨A', c', rfl, hle, hC⟩, hcell⟩ := hc i _ (List.getElem?_eq_getElem hi)
  have hh := hcell 0 _ rfl
  rw [show i * (Kd.slice e d).sz + 0 = i from by show i * 1 + 0 = i; omega] at hh
  exact ⟨ad, A', c', ha, hh, hle, hC⟩
theorem sec_C {w : World} {a : Addr} {l : List Int} (h : Kd.C (Kd.int .u8) w (some a) l.length l) (hl : l.length = 256) (k : Nat) (hk : k < 4) : Kd.C (Kd.int .u8) w (some (a.add (64 * k))) (64 * k + 64 - 64 * k) (sec k l) := by
  refine Kd.C_of_reads (enc := fun x => Value.int .u8 x) (d := (0:Int)) (h1 := fun _ => rfl) ⟨by rw [sec_len k hk l hl]; omega, by omega, fun _ => ⟨_, rfl, fun j hj => ?_⟩⟩
  obtain ⟨ad, e, hcell⟩ := Kd.at_int h ((64 * k + j : Nat) : Int) (by omega) (by omega)
  cases e
  rw [Int.toNat_natCast] at hcell
  rw [Go.Deep.add_add, hcell]
  unfold rd sec
  rw [Int.toNat_natCast, List.getD_eq_getElem?_getD, List.getD_eq_getElem?_getD, List.getElem?_take_of_lt (by omega), List.getElem?_drop]
theorem sec_str {w : World} {a : Addr} {l : List Int} (c : Nat) (h : Kd.C (Kd.int .u8) w (some a) l.length l) (hl : l.length = 256) (k : Nat) (hk : k < 4) : (convert 30 9 (.slice (some (a.add (64 * k))) 64 c)).run Try.prog w = .ok (.string (strOfNums (sec k l))) w :=
  Kd.C_string Try.underlying30 Try.underlying5 Try.underlying9 (by have := sec_C h hl k hk; rw [show 64 * k + 64 - 64 * k = 64 by omega] at this; exact this)
set_option maxHeartbeats 8000000 in
set_option maxRecDepth 100000 in
theorem tears_any {w : World} (AW : Option Addr) (cw : Nat) (ws : List (List Int)) (n : Int) (AM : Option Addr) (cm : Nat) (ms : List Int) (hW : Kd.C (Kd.slice 5 (Kd.int .u8)) w AW ws.length ws) (hby : ∀ b ∈ ws, ∀ x ∈ b, 0 ≤ x ∧ x ≤ 255) (hM : Kd.C (Kd.int .i64) w AM ms.length ms) (hcm : ms.length ≤ cm) :
    Calls Try.prog 3 #[.slice AW ws.length cw, .int .i64 n, .slice AM ms.length cm] w fun e w' => e = .returned (.bool true) ∧ Below w.heap.size w w' := by
  have HW := Aside0.mk hW
  have HM := Aside0.mk hM
  have HBY := Aside0.mk hby
  clear hW hM hby
  by_cases hbig : ws.length ≤ 20 ∧ 0 ≤ n ∧ n ≤ 15
  · obtain ⟨hb1, hb2, hb3⟩ := hbig
    go_enter Try.func3, Try.ntmps3
    go_wp2_with fail
    refine (blank_yes 16 w (by omega)).mono ?_
    rintro e w1 ⟨db, sb, rfl, p1, b1⟩
    have HP1 := Aside0.mk (show PD w1 w.heap.size db sb (tD n (ws.take 0)) from p1)
    have HB1 := Aside0.mk b1
    have HLO := Aside0.mk (show w.heap.size ≤ db ∧ w.heap.size ≤ sb by obtain ⟨_, _, _, h⟩ := p1; exact ⟨h.dbase, h.sbase⟩)
    clear p1 b1
    go_wp2_with fail
    go_loopg [9] ws.length (fun g v9 wr => ∃ (i : Nat), Aside0 (i + g = ws.length) ∧ v9 = .int .i64 i ∧ Aside0 (PD wr w.heap.size db sb (tD n (ws.take i))) ∧ Aside0 (Below w.heap.size w wr))
    case atStart => exact ⟨0, ⟨by omega⟩, rfl, HP1, HB1⟩
    case round =>
      clear HP1 HB1
      obtain ⟨i, HI, rfl, HP, HB⟩ := hrel
      by_cases hi : i < ws.length
      · obtain ⟨ad, A', c', rfl, hcell, hcl, hC⟩ := at_rows (Kd.C_below HW.out HB.out) i hi
        have HBI := Aside0.mk (HBY.out _ (List.getElem_mem hi))
        have HTK := Aside0.mk (List.take_succ_eq_append_getElem hi)
        obtain ⟨bi, hbi⟩ : ∃ bi, bi = ws[i] := ⟨_, rfl⟩
        rw [← hbi] at hcell hcl hC HBI HTK
        have HC := Aside0.mk hC
        clear hC hbi
        go_wp2_with fail
        refine (Block_any A' c' bi HC.out hcl).mono ?_
        rintro e w2 ⟨a, c, rfl, hc, hr, b⟩
        replace HP := Aside0.mk (HP.out.below b)
        replace HB := Aside0.mk (HB.out.trans (b.mono HB.out.size))
        have HR := Aside0.mk hr
        clear b hr hcell
        go_wp2_with fail
        have hwr := write_yes HP.out n (tD_ready n _ ⟨hb2, hb3⟩) a c (blockOf bi) (block_len bi) (block_mem _ HBI.out) (fun x hx => row_at (by have := Kd.R_below HR.out hx; exact this)) (by show ((ws.take i).map _).length ≤ _; rw [List.length_map, List.length_take]; omega)
        rw [tD_next n (ws.take i) bi ⟨hb2, hb3⟩ (by rw [List.length_take]; omega), block_len, ← HTK.out] at hwr
        refine hwr.mono ?_
        rintro e w3 ⟨rfl, p, f⟩
        have HP3 := Aside0.mk p
        have HB3 := Aside0.mk (HB.out.trans (f.below HLO.out.1 HLO.out.2 HB.out.size))
        clear p f hwr
        go_wp2_with fail
        go_roundg (gk - 1)
        case measure => have := HI.out; omega
        case rel => exact ⟨i + 1, ⟨by have := HI.out; omega⟩, by go_num, HP3, HB3⟩
      · have hin : i = ws.length := by have := HI.out; omega
        subst hin
        rw [List.take_length] at HP
        go_wp2_with fail
        refine (crash_any HP.out AM cm ms (Kd.C_below HM.out HB.out) hcm (fun x hx => Kd.C_below HM.out (HB.out.trans ⟨hx.os, hx.tape, hx.output, hx.size, fun k hk => hx.block k (Nat.lt_of_lt_of_le hk HB.out.size) (by have := HLO.out.2; omega) (fun _ _ _ _ h => h)⟩))).mono ?_
        rintro e w4 ⟨⟨v4, rfl⟩, p, f⟩
        have HP4 := Aside0.mk p
        have HB4 := Aside0.mk (HB.out.trans (f.below HLO.out.1 HLO.out.2 HB.out.size))
        clear p f
        go_wp2_with fail
        refine (read_yes HP4.out n (tears_ready n ws ms ⟨hb2, hb3⟩) (by show (0:Nat) ≤ _; omega)).mono ?_
        rintro e w5 ⟨v5, rfl, hr5, p, f⟩
        rw [tears_now n ws ms ⟨hb2, hb3⟩] at hr5
        have HB5 := Aside0.mk (HB4.out.trans (f.below HLO.out.1 HLO.out.2 HB4.out.size))
        obtain ⟨A5, c5, rfl⟩ := Kd.R_slice hr5
        have hc5 := (Kd.R_reads' hr5).2.1
        have HR5 := Aside0.mk (row_at hr5)
        rw [tears_len] at hc5
        rw [tears_len]
        clear p f hr5 HP4 HB4 HP HI
        go_wp2_with fail
        obtain ⟨a5, rfl, _⟩ := Kd.at_int HR5.out 0 (by omega) (by rw [tears_len]; omega)
        go_loopg [12, 13, 14] 4 (fun g v12 v13 v14 wr => ∃ (k : Nat), Aside0 (k + g = 4) ∧ v12 = .int .i64 k ∧ Aside0 (Below w5.heap.size w5 wr))
        case atStart => exact ⟨0, ⟨by omega⟩, rfl, ⟨Below.refl _ _⟩⟩
        case round =>
          obtain ⟨k, HK, rfl, HBk⟩ := hrel
          by_cases hk : k < 4
          · go_wp2_with fail
            refine (Block_any none 0 [] ?cb (Nat.le_refl _)).mono ?_
            case cb => exact ⟨rfl, by decide, fun h => absurd h (by decide)⟩
            rintro e w6 ⟨a6, c6, rfl, hc6, hr6, b⟩
            have HR6 := Aside0.mk (show Kd.R (Kd.int .u8) 5 w6 w.heap.size (fun _ => True) (.slice (some a6) 256 c6) (wantTo ws ms k 0) from Kd.R_lower hr6 (Nat.le_trans HB5.out.size HBk.out.size))
            have HB6 := Aside0.mk (HBk.out.trans (b.mono HBk.out.size))
            clear b hr6
            go_wp2_with fail
            go_loopg [14, 13] (ws.length - 0) (fun g v14 v13 wq => ∃ (i : Nat) (a : Addr) (c : Nat), Aside0 (i + g = ws.length ∧ i ≤ ms.length) ∧ v14 = .int .i64 i ∧ v13 = .slice (some a) 256 c ∧ 256 ≤ c ∧ Aside0 (Kd.R (Kd.int .u8) 5 wq w.heap.size (fun _ => True) (.slice (some a) 256 c) (wantTo ws ms k i)) ∧ Aside0 (Below w5.heap.size w5 wq))
            case atStart => exact ⟨0, a6, c6, ⟨by omega⟩, rfl, rfl, hc6, HR6, HB6⟩
            case round =>
              clear HR6 HB6 hc6
              obtain ⟨i, a, c, HI, rfl, rfl, hc, HR, HBq⟩ := hrel
              by_cases hi : i < ws.length ∧ i < ms.length
              · obtain ⟨hi1, hi2⟩ := hi
                obtain ⟨am, rfl, hcm'⟩ := Kd.at_int (Kd.C_below HM.out (HB5.out.trans (HBq.out.mono HB5.out.size))) (i : Int) (by omega) (by omega)
                obtain ⟨mk, hmk⟩ : ∃ mk, mk = rd ms i := ⟨_, rfl⟩
                rw [← hmk, Int.toNat_natCast] at hcm'
                have HMK := Aside0.mk (show mk = ms.getD i 0 by rw [hmk]; unfold rd; rw [Int.toNat_natCast])
                clear hmk
                obtain ⟨ad, A', c', rfl, hcell, hcl, hC⟩ := at_rows (Kd.C_below HW.out (HB5.out.trans (HBq.out.mono HB5.out.size))) i hi1
                have HWI := Aside0.mk (show ws.getD i [] = ws[i] by simp [List.getD_eq_getElem?_getD, hi1])
                obtain ⟨bi, hbi⟩ : ∃ bi, bi = ws[i] := ⟨_, rfl⟩
                rw [← hbi] at hcell hcl hC HWI
                have HC := Aside0.mk hC
                clear hC hbi
                have HWN := Aside0.mk (show wantTo ws ms k (i + 1) = if onM mk k = true then blockOf bi else wantTo ws ms k i by rw [← HWI.out, HMK.out]; rfl)
                cases hb : onM mk k with
                | false =>
                  have hbit : (Go.bits .and .i64 (mk / 2 ^ k) 1 == 1) = false := hb
                  rw [hb] at HWN
                  clear hb
                  go_wp2_with fail
                  go_roundg (ws.length - (i + 1))
                  case measure => have := HI.out; omega
                  case rel => exact ⟨i + 1, a, c, ⟨by have := HI.out; omega⟩, by go_num, rfl, hc, ⟨by rw [HWN.out]; exact HR.out⟩, HBq⟩
                | true =>
                  have hbit : (Go.bits .and .i64 (mk / 2 ^ k) 1 == 1) = true := hb
                  rw [hb] at HWN
                  clear hb
                  go_wp2_with fail
                  refine (Block_any A' c' bi HC.out hcl).mono ?_
                  rintro e w7 ⟨a7, c7, rfl, hc7, hr7, b⟩
                  have HB7 := Aside0.mk (HBq.out.trans (b.mono HBq.out.size))
                  have HR7 := Aside0.mk (Kd.R_lower hr7 (Nat.le_trans HB5.out.size HBq.out.size))
                  clear b hr7 hcell
                  go_wp2_with fail
                  go_roundg (ws.length - (i + 1))
                  case measure => have := HI.out; omega
                  case rel => exact ⟨i + 1, a7, c7, ⟨by have := HI.out; omega⟩, by go_num, rfl, hc7, ⟨by rw [HWN.out]; exact HR7.out⟩, HB7⟩
              · have hmin : i = min ws.length ms.length := by have := HI.out; omega
                rw [hmin] at HR
                clear hmin
                have HC6 := Aside0.mk (row_at HR.out)
                have HC5 := Aside0.mk (Kd.C_below HR5.out HBq.out)
                have q1 : (64 : Int) * k ≤ 64 * k + 64 := by omega
                have q2 : (64 : Int) * k + 64 ≤ 256 := by omega
                have q3 : (0 : Int) ≤ 64 * k := by omega
                have q4 : (64 : Int) * k ≤ 256 := by omega
                have REGION : True := trivial
                by_cases hi1 : i < ws.length
                · have hi2 : ¬ (i < ms.length) := fun h => hi ⟨hi1, h⟩
                  clear hi
                  go_wp2_with fail
                  have hs5 : ∀ m : Go.Reg.In (fun x => x = wr.drew), (convert 30 9 (.slice (some (a5.add (64 * k))) 64 (c5 - 64 * k))).run Try.prog m.w = .ok (.string (strOfNums (sec k (tearsTo ws ms (min ws.length ms.length))))) m.w := fun m => by rw [m.h]; exact sec_str _ (Kd.C_below HC5.out (below_drew1 (Below.refl _ _))) (tears_len _ _ _) k hk
                  have hs6 : ∀ m : Go.Reg.In (fun x => x = wr.drew), (convert 30 9 (.slice (some (a.add (64 * k))) 64 (c - 64 * k))).run Try.prog m.w = .ok (.string (strOfNums (sec k (wantTo ws ms k (min ws.length ms.length))))) m.w := fun m => by rw [m.h]; exact sec_str _ (Kd.C_below HC6.out (below_drew1 (Below.refl _ _))) (want_len _ _ _ _) k hk
                  rw [← sec_want ws ms k hk] at hs6
                  obtain ⟨T, hT⟩ : ∃ T, T = strOfNums (sec k (tearsTo ws ms (min ws.length ms.length))) := ⟨_, rfl⟩
                  rw [← hT] at hs5 hs6
                  clear hT
                  refine Go.Reg.region (fun x => x = wr.drew) [.s, .s, .s, .s, .s, .s, .s, .s, .s, .s, .s, .s, .s, .s, .s, .s, .s, .s, .s, .s, .s, .s] (by kernel_rfl) (by kernel_rfl) rfl (fun ne => ?_)
                  refine Go.Reg.lex_q 22 _ _ _ _ (by rfl) ?_; simp only [List.take_succ_cons, List.take_zero, List.drop_succ_cons, List.drop_zero]; (repeat (go_big_quiet_step (rfl))); refine wpQuiet_nil ?_
                  refine Go.Reg.lex_nil ?_
                  clear hs5 hs6
                  go_wp2_with fail
                  go_roundg (4 - (k + 1))
                  case measure => have := HK.out; omega
                  case rel => exact ⟨k + 1, ⟨by have := HK.out; omega⟩, by go_num, ⟨below_drew1 HBq.out⟩⟩
                · clear hi
                  go_wp2_with fail
                  have hs5 : ∀ m : Go.Reg.In (fun x => x = wr.drew), (convert 30 9 (.slice (some (a5.add (64 * k))) 64 (c5 - 64 * k))).run Try.prog m.w = .ok (.string (strOfNums (sec k (tearsTo ws ms (min ws.length ms.length))))) m.w := fun m => by rw [m.h]; exact sec_str _ (Kd.C_below HC5.out (below_drew1 (Below.refl _ _))) (tears_len _ _ _) k hk
                  have hs6 : ∀ m : Go.Reg.In (fun x => x = wr.drew), (convert 30 9 (.slice (some (a.add (64 * k))) 64 (c - 64 * k))).run Try.prog m.w = .ok (.string (strOfNums (sec k (wantTo ws ms k (min ws.length ms.length))))) m.w := fun m => by rw [m.h]; exact sec_str _ (Kd.C_below HC6.out (below_drew1 (Below.refl _ _))) (want_len _ _ _ _) k hk
                  rw [← sec_want ws ms k hk] at hs6
                  obtain ⟨T, hT⟩ : ∃ T, T = strOfNums (sec k (tearsTo ws ms (min ws.length ms.length))) := ⟨_, rfl⟩
                  rw [← hT] at hs5 hs6
                  clear hT
                  refine Go.Reg.region (fun x => x = wr.drew) [.s, .s, .s, .s, .s, .s, .s, .s, .s, .s, .s, .s, .s, .s, .s, .s, .s, .s, .s, .s, .s, .s] (by kernel_rfl) (by kernel_rfl) rfl (fun ne => ?_)
                  refine Go.Reg.lex_q 22 _ _ _ _ (by rfl) ?_; simp only [List.take_succ_cons, List.take_zero, List.drop_succ_cons, List.drop_zero]; (repeat (go_big_quiet_step (rfl))); refine wpQuiet_nil ?_
                  refine Go.Reg.lex_nil ?_
                  clear hs5 hs6
                  go_wp2_with fail
                  go_roundg (4 - (k + 1))
                  case measure => have := HK.out; omega
                  case rel => exact ⟨k + 1, ⟨by have := HK.out; omega⟩, by go_num, ⟨below_drew1 HBq.out⟩⟩
          · have hk4 : k = 4 := by have := HK.out; omega
            subst hk4
            go_wp2_with fail
            refine (awake_any _).mono ?_
            rintro e w9 ⟨rfl, b9⟩
            have HB9 := Aside0.mk ((HB5.out.trans (HBk.out.mono HB5.out.size)).trans (b9.mono (Nat.le_trans HB5.out.size HBk.out.size)))
            clear b9
            go_wp2_with fail
            go_ret
            exact ⟨rfl, HB9.out⟩
  · by_cases h1 : ws.length ≤ 20
    · by_cases h2 : 0 ≤ n
      · have h3 : ¬ n ≤ 15 := fun h => hbig ⟨h1, h2, h⟩
        clear hbig
        go_enter Try.func3, Try.ntmps3
        go_wp2_with fail
        refine (blank_yes 16 w (by omega)).mono ?_
        rintro e w1 ⟨db, sb, rfl, p1, b1⟩
        have HB1 := Aside0.mk b1
        clear p1 b1
        go_wp2_with fail
        refine (awake_any _).mono ?_
        rintro e w9 ⟨rfl, b9⟩
        have HB9 := Aside0.mk (HB1.out.trans (b9.mono HB1.out.size))
        clear b9
        go_wp2_with fail
        go_ret
        exact ⟨rfl, HB9.out⟩
      · clear hbig
        go_enter Try.func3, Try.ntmps3
        go_wp2_with fail
        refine (blank_yes 16 w (by omega)).mono ?_
        rintro e w1 ⟨db, sb, rfl, p1, b1⟩
        have HB1 := Aside0.mk b1
        clear p1 b1
        go_wp2_with fail
        refine (awake_any _).mono ?_
        rintro e w9 ⟨rfl, b9⟩
        have HB9 := Aside0.mk (HB1.out.trans (b9.mono HB1.out.size))
        clear b9
        go_wp2_with fail
        go_ret
        exact ⟨rfl, HB9.out⟩
    · clear hbig
      go_enter Try.func3, Try.ntmps3
      go_wp2_with fail
      refine (blank_yes 16 w (by omega)).mono ?_
      rintro e w1 ⟨db, sb, rfl, p1, b1⟩
      have HB1 := Aside0.mk b1
      clear p1 b1
      go_wp2_with fail
      refine (awake_any _).mono ?_
      rintro e w9 ⟨rfl, b9⟩
      have HB9 := Aside0.mk (HB1.out.trans (b9.mono HB1.out.size))
      clear b9
      go_wp2_with fail
      go_ret
      exact ⟨rfl, HB9.out⟩
end Disk
end Go.Proofs.Ytooemgcijbdilaa
