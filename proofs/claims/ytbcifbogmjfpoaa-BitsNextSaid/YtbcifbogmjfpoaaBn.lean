/- Sets of bits: contracts, seventh part. -/
import Derived.Test.YtbcifbogmjfpoaaBk
import Derived.Test.YtbcifbogmjfpoaaPBitsDoesx
import Derived.Below
import Derived.Test.YtbcifbogmjfpoaaReg
import Derived.Deep.MidRow
import Derived.Deep.WholeRow
import Derived.Great.BuildSlice
import Derived.Lib.Hide
import Derived.OwnWalk
import Derived.WalkKit
import Derived.KernelRfl
import Derived.RowKit3
import Derived.Deep.LoopGhost
import Derived.Deep.QuietTactic
import Derived.BigQuiet
import Derived.WideLaws
import Derived.Outline
import Derived.Deep.DeepCutAuto
import Derived.Deep.CutBlock
import Derived.WalkSpells
import Derived.RegionTactic
import Derived.BigRegion
import Derived.WalkLawsBesides
namespace Go.Proofs.Ytbcifbogmjfpoaa
set_option linter.unusedVariables false
set_option linter.unusedSimpArgs false
open Go.RowKit Go.Proofs.YtbcifbogmjfpoaaW.PrintWords Go.Proofs.YtbcifbogmjfpoaaW.PrintLast Go.Proofs.YtbcifbogmjfpoaaW.PrintMore
namespace Bits
open Go.Bits
open PBitsDoes
theorem both_len (l : List Bool) (n : Nat) : ∀ p, l.length - p = n → (listAt l true p).length + (listAt l false p).length = n := by
  induction n with
  | zero => intro p hp; rw [list_end (by omega), list_end (by omega)]; rfl
  | succ n ih =>
    intro p hp
    have := ih (p + 1) (by omega)
    cases hb : l.getD p false
    · rw [list_miss (b := true) (i := p) (fun _ => by rw [hb]; decide), list_hit (b := false) (by omega) hb, List.length_cons]
      omega
    · rw [list_miss (b := false) (i := p) (fun _ => by rw [hb]; decide), list_hit (b := true) (by omega) hb, List.length_cons]
      omega
theorem At.appended {W w1 : World} {b : Nat} {l : List Bool} {base : Nat} {ok : Nat → Prop} {v : Value} {xs : List Int} (hg : W.grownBy w1 v.ownBlock) (hr : Kd.R (Kd.int .i64) 3 W base ok v xs) (h : At W b l) : At w1 b l := by
  have hlt := h.lt
  obtain ⟨ws, hb, hs⟩ := h
  have hne := Kd.R_ne hr hb (by decide)
  exact ⟨ws, (hg.block b hlt hne).trans hb, hs⟩
theorem At.alloc {w : World} {b : Nat} {l : List Bool} (h : At w b l) (o : Obj) : At (w.alloc o) b l := h.keep (heap_alloc_old w o h.lt)
theorem At.drewN {w : World} {b : Nat} {l : List Bool} (h : At w b l) (n : Nat) : At (w.drewN n) b l := h
theorem At.drew {w : World} {b : Nat} {l : List Bool} (h : At w b l) : At w.drew b l := h
theorem next_out (n : Int) (A : Option Addr) (c : Nat) (xs : List Int) (w : World) (hn : n < 0 ∨ 4096 < n) :
    Calls Try.prog 7 #[.int .i64 n, .slice A xs.length c] w fun e w' => e = .returned (.bool true) ∧ Below w.heap.size w w' := by
  go_enter Try.func7, Try.ntmps7
  go_wp2_with fail
  refine (of_no n _ hn).mono ?_
  rintro e w' ⟨rfl, rfl⟩
  go_wp2_with fail
  refine (awake_any _).mono ?_
  rintro e w' ⟨rfl, hb⟩
  go_wp2_with fail
  go_ret
  exact ⟨rfl, hb⟩
theorem next_large (n : Nat) (A : Option Addr) (c : Nat) (xs : List Int) (w : World) (hn : n ≤ 4096) (hx : 300 < xs.length) :
    Calls Try.prog 7 #[.int .i64 n, .slice A xs.length c] w fun e w' => e = .returned (.bool true) ∧ Below w.heap.size w w' := by
  go_enter Try.func7, Try.ntmps7
  go_wp2_with fail
  refine (of_at n _ hn).mono ?_
  rintro e w1 ⟨rfl, -, b1⟩
  go_wp2_with fail
  refine (awake_any _).mono ?_
  rintro e w' ⟨rfl, hb⟩
  go_wp2_with fail
  go_ret
  exact ⟨rfl, b1.trans (hb.mono b1.size)⟩
set_option maxHeartbeats 1000000 in
theorem next_main (n : Nat) (A : Option Addr) (c : Nat) (ys : List Int) (w : World) (hn : n ≤ 4096) (hx : ys.length ≤ 300) (hr : Kd.C (Kd.int .i64) w A ys.length ys) (hc : ys.length ≤ c) :
    Calls Try.prog 7 #[.int .i64 n, .slice A ys.length c] w fun e w' => e = .returned (.bool true) ∧ Below w.heap.size w w' := by
  have HYS := Lib.hid hr
  clear hr
  go_enter Try.func7, Try.ntmps7
  go_wp2_with fail
  refine (of_at n _ hn).mono ?_
  rintro e w1 ⟨rfl, a1, b1⟩
  obtain ⟨b, hb⟩ : ∃ b, b = w.heap.size := ⟨_, rfl⟩
  rw [← hb] at a1
  have HA := Lib.hid a1
  have HB := Lib.hid b1
  have HBE := Lib.hid (show w.heap.size ≤ b by omega)
  rw [← hb]
  clear a1 b1 hb
  go_wp2_with fail
  go_loopg [7] ys.length (fun g v7 wr => ∃ (i : Nat) (l : List Bool), Aside0 (i + g = ys.length) ∧ v7 = .int .i64 i ∧ Aside0 (l.length = n) ∧ Aside0 (At wr b l) ∧ Aside0 (Below w.heap.size w wr))
  case atStart => exact ⟨0, List.replicate n false, ⟨by omega⟩, rfl, ⟨by simp⟩, ⟨HA.out⟩, ⟨HB.out⟩⟩
  case round =>
    clear HA HB
    obtain ⟨i, l, HI, rfl, HN, HA, HB⟩ := hrel
    by_cases hi : i < ys.length
    · obtain ⟨ad, rfl, hcl⟩ := Kd.at_int HYS.out i (by omega) (by omega)
      obtain ⟨y, hy⟩ : ∃ y, y = rd ys i := ⟨_, rfl⟩
      rw [← hy, Int.toNat_natCast] at hcl
      have hcl2 := (HB.out.cell (World.block_lt_of_cell? w _ hcl)).trans hcl
      clear hcl hy
      go_wp2_with (go_at_call 25; refine (add_any b l y _ HA.out).mono ?_; rintro e w3 ⟨rfl, a, g⟩; have n1_ := Aside0.mk (mine HB.out HA.out HBE.out g); have n2_ := Aside0.mk a; clear HA HB a g; have HA := n2_; have HB := n1_; clear n1_ n2_)
      go_roundg (gk - 1)
      case measure => have := HI.out; omega
      case rel => exact ⟨i + 1, (addL l y).1, ⟨by have := HI.out; omega⟩, by go_num, ⟨by rw [addL_len]; exact HN.out⟩, HA, HB⟩
    · have hnlt := HN.out
      have hl : l.length ≤ 4096 := by omega
      have HBL := Aside0.mk (both_len l n 0 (by omega))
      go_wp2_with fail
      refine (next_any b l 0 _ HA.out).mono ?_
      rintro e w' ⟨rfl, rfl⟩
      go_wp2_with fail
      go_loopg [8, 9] (l.length + 1) (fun g v8 v9 wr => ∃ (p : Nat) (xs : List Int), v9 = .int .i64 (firstAt l true p) ∧ Aside0 (p + g = l.length + 1) ∧ Aside0 (xs.length ≤ p) ∧ Aside0 (xs ++ listAt l true p = listL l) ∧ Aside0 (Kd.R (Kd.int .i64) 3 wr w.heap.size (fun _ => True) v8 xs) ∧ Aside0 (At wr b l) ∧ Aside0 (Below w.heap.size w wr))
      case atStart => exact ⟨0, [], rfl, ⟨by omega⟩, ⟨Nat.le_refl _⟩, ⟨rfl⟩, ⟨Kd.R_nil _ _ _ _ _⟩, HA, HB⟩
      case round =>
        clear HA HB
        obtain ⟨p, xs, rfl, HP, HX, HL, HR, HA, HB⟩ := hrel
        have hbd := first_bd l true p
        have HLF := list_first l true p
        obtain ⟨q, hq⟩ : ∃ q, q = firstAt l true p := ⟨_, rfl⟩
        rw [← hq] at hbd HLF
        obtain ⟨AV, cV, hV, hcV, hCV⟩ := Kd.R_reads HR.out
        subst hV
        by_cases hq0 : q = -1
        · rw [← hq]
          rw [if_pos hq0] at HLF
          have HXL := HL.out
          rw [HLF, List.append_nil] at HXL
          subst HXL
          have HCV := Aside0.mk hCV
          clear hq HR HLF HL hCV
          go_wp2_with fail
          refine (gap_any b l 0 _ HA.out).mono ?_
          rintro e w' ⟨rfl, rfl⟩
          go_wp2_with fail
          go_loopg [10, 11] (l.length + 1) (fun g v10 v11 wr' => ∃ (p k : Nat), v10 = .int .i64 k ∧ v11 = .int .i64 (firstAt l false p) ∧ Aside0 (p + g = l.length + 1) ∧ k ≤ p ∧ Aside0 (k + (listAt l false p).length = (listAt l false 0).length) ∧ wr' = wr)
          case atStart => exact ⟨0, 0, rfl, rfl, ⟨by omega⟩, Nat.le_refl _, ⟨by omega⟩, rfl⟩
          case round =>
            clear HP HX
            obtain ⟨p, k, rfl, rfl, HP, hkp, HK, rfl⟩ := hrel
            have hbd := first_bd l false p
            have HLF := list_first l false p
            obtain ⟨q, hq⟩ : ∃ q, q = firstAt l false p := ⟨_, rfl⟩
            rw [← hq] at hbd HLF
            by_cases hq0 : q = -1
            · rw [← hq]
              rw [if_pos hq0] at HLF
              have hk1 := HK.out
              rw [HLF] at hk1
              clear hq
              go_wp2_with fail
              refine (list_any b l _ HA.out hl).mono ?_
              rintro e w5 ⟨v, rfl, hr5, b5⟩
              obtain ⟨A5, c5, rfl, hc5, hC5⟩ := Kd.R_reads hr5
              go_wp2_with fail
              refine (ints_eq _ _ _ _ _ _ (listL l) _ rfl rfl (listL_len l hl) (Kd.C_below HCV.out b5) hcV hC5 hc5).mono ?_
              rintro e w6 ⟨rfl, ⟨nd, rfl⟩⟩
              have HA5 := Aside0.mk ((HA.out.below b5).drewN nd)
              have HB5 := Aside0.mk (HB.out.trans (b5.mono HB.out.size))
              clear hr5 hC5 b5
              go_wp2_with fail
              refine (count_any b l _ HA5.out).mono ?_
              rintro e w7 ⟨rfl, rfl⟩
              have hsum : (k : Int) + ((listL l).length : Int) = n := by have := HBL.out; simp only [List.length_nil] at hk1; unfold listL; omega
              go_wp2_with fail
              refine (awake_any _).mono ?_
              rintro e w8 ⟨rfl, b8⟩
              go_wp2_with fail
              go_ret
              exact ⟨rfl, HB5.out.trans ((pw_below_drewN (Below.refl _ _) nd).trans b8 |>.mono HB5.out.size)⟩
            · rw [if_neg hq0] at HLF
              have hq1 : 0 ≤ q := by omega
              have hq2 : (p : Int) ≤ q := by omega
              have hq3 : q < n := by rw [← hnlt]; exact hbd.2.1
              have hkl : (k : Int) < n := by omega
              have HLF' := Aside0.mk HLF
              rw [← hq]
              clear hq hbd hq0 HLF
              go_wp2_with (first | (go_at_call 34; refine (gap_any b l (q + 1) _ HA.out).mono ?_; rintro e w' ⟨rfl, rfl⟩))
              go_roundg (l.length - q.toNat)
              case measure => have := HP.out; omega
              case rel => exact ⟨q.toNat + 1, k + 1, by go_num, by unfold firstL; rw [show (q + 1).toNat = q.toNat + 1 by omega], ⟨by omega⟩, by omega, ⟨by have := HK.out; rw [HLF'.out, List.length_cons] at this; omega⟩, rfl⟩
        · rw [if_neg hq0] at HLF
          have hq1 : 0 ≤ q := by omega
          have hq2 : (p : Int) ≤ q := by omega
          have hq3 : q < n := by rw [← hnlt]; exact hbd.2.1
          have hxl : (xs.length : Int) < n := by have := HX.out; omega
          rw [← hq]
          have HLF' := Aside0.mk HLF
          have LM : Aside0 (xs.length < 17592186044416) := ⟨by have := HX.out; omega⟩
          clear hq hbd hq0 HLF hCV
          go_wp2_with (first | ((with_reducible refine gate_builtin (b := .append) (xs := #[.tmp 62, .tmp 64]) rfl ?_); at_builtin; refine Kd.R_append (Kd.int .i64) (w0 := w) w.heap.size rfl (.tmp 62) (.tmp 64) 22 3 (.int .i64 0) 8 rfl Try.underlying22 PBitsDoes.info3 rfl (by decide) (by omega) (.slice AV xs.length cV) xs q [.int .i64 q] (fun _ => True) (fun _ => False) rfl rfl ?aP (fun _ hk => hk.elim) ?aF ?aO ?aB ?aS ?aL ?_; (case aP => exact rfl); (case aB => exact (by repeat (first | (with_reducible first | exact HB.out | apply below_alloc | apply pw_below_drewN | apply below_drew1) | exact HB.out))); (case aF => exact (fun _ _ => trivial)); (case aO => exact (by (with_reducible repeat (first | apply Kd.R_alloc | apply Kd.R_drewN | apply Kd.R_drew)); exact HR.out)); (case aS => exact (below_size (by repeat (first | (with_reducible first | exact HB.out | apply below_alloc | apply pw_below_drewN | apply below_drew1) | exact HB.out)))); (case aL => have := LM.out; omega); intro v131 w9 ho hb hg hat; have n1_ := Aside0.mk (hb); have n2_ := Aside0.mk (ho); have n3_ := Aside0.mk (At.appended hg (by (with_reducible repeat (first | apply Kd.R_alloc | apply Kd.R_drewN | apply Kd.R_drew)); exact HR.out) (by (with_reducible repeat (first | apply At.alloc | apply At.drewN | apply At.drew)); exact HA.out)); clear HB; clear HR; clear HA; have HB := n1_; have HR := n2_; have HA := n3_; clear n1_ n2_ n3_; clear ho hb hg hat) | (go_at_call 32; refine (next_any b l (q + 1) _ HA.out).mono ?_; rintro e w' ⟨rfl, rfl⟩) | fail)
          go_roundg (l.length - q.toNat)
          case measure => have := HP.out; omega
          case rel => exact ⟨q.toNat + 1, xs ++ [q], by unfold firstL; rw [show (q + 1).toNat = q.toNat + 1 by omega], ⟨by omega⟩, ⟨by have := HX.out; rw [List.length_append]; simp; omega⟩, ⟨by have := HL.out; rw [HLF'.out] at this; rw [List.append_assoc]; exact this⟩, HR, HA, HB⟩
theorem next_walk (n : Int) (A : Option Addr) (c : Nat) (ys : List Int) (w : World) (hr : Kd.C (Kd.int .i64) w A ys.length ys) (hc : ys.length ≤ c) :
    Calls Try.prog 7 #[.int .i64 n, .slice A ys.length c] w fun e w' => e = .returned (.bool true) ∧ Below w.heap.size w w' := by
  by_cases hn : 0 ≤ n ∧ n ≤ 4096
  · obtain ⟨k, rfl⟩ := Int.eq_ofNat_of_zero_le hn.1
    by_cases hx : ys.length ≤ 300
    · exact next_main k A c ys w (by omega) hx hr hc
    · exact next_large k A c ys w (by omega) (by omega)
  · exact next_out n A c ys w (by omega)
end Bits
end Go.Proofs.Ytbcifbogmjfpoaa
