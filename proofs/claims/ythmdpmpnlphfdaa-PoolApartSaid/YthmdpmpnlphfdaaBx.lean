/- Sets of bits: contracts, second part. -/
import Derived.Test.YthmdpmpnlphfdaaBw
import Derived.Below
import Derived.Lib.Hide
import Derived.OwnWalk
import Derived.WalkKit
import Derived.KernelRfl
import Derived.RowKit3
import Derived.Deep.LoopGhost
import Derived.Deep.QuietTactic
import Derived.BigQuiet
import Derived.WideLaws
import Derived.Outline
import Derived.Deep.DeepCutAuto
import Derived.Deep.CutBlock
import Derived.WalkSpells
import Derived.RegionTactic
import Derived.BigRegion
import Derived.WalkLawsBesides
namespace Go.Proofs.Ythmdpmpnlphfdaa
open Go.RowKit
namespace Bits
open Go.Bits
structure Aside0 (P : Prop) : Prop where
  out : P
theorem grown_same (w : World) (b : Option Nat) : w.grownBy w b := ⟨rfl, rfl, rfl, Nat.le_refl _, fun _ _ _ => rfl⟩
theorem turn_out (b : Nat) (l : List Bool) (i : Int) (was : Bool) (er : Int) (w : World) (h : At w b l) (hi : ¬ (0 ≤ i ∧ i < l.length)) :
    Calls Try.prog 40 #[.pointer (some ⟨b, 0, none⟩), .int .i64 i, .bool was, .int .i64 er] w fun e w' => e = .returned (.int .i64 10) ∧ w = w' := by
  have HAt := Lib.hid h
  have hb : (decide ((0 : Int) ≤ i) && decide (i < (l.length : Int))) = false := by
    rw [Bool.eq_false_iff]; simpa using hi
  clear h
  go_enter Try.func40, Try.ntmps40
  go_wp2_with fail
  refine (within_any b l i _ HAt.out).mono ?_
  rintro e w' ⟨rfl, rfl⟩
  rw [hb]
  go_wp2_with fail
  go_ret
  exact ⟨rfl, rfl⟩
theorem turn_same (b : Nat) (l : List Bool) (i : Int) (was : Bool) (er : Int) (w : World) (h : At w b l) (hi : 0 ≤ i ∧ i < l.length) (hw : hasL l i ≠ was) :
    Calls Try.prog 40 #[.pointer (some ⟨b, 0, none⟩), .int .i64 i, .bool was, .int .i64 er] w fun e w' => e = .returned (.int .i64 er) ∧ w = w' := by
  have HAt := Lib.hid h
  have hb : (decide ((0 : Int) ≤ i) && decide (i < (l.length : Int))) = true := by
    simpa using hi
  have hne : (!(hasL l i == was)) = true := by simpa using hw
  clear h hw
  go_enter Try.func40, Try.ntmps40
  go_wp2_with fail
  refine (within_any b l i _ HAt.out).mono ?_
  rintro e w' ⟨rfl, rfl⟩
  rw [hb]
  go_wp2_with fail
  refine (has_any b l i _ HAt.out).mono ?_
  rintro e w' ⟨rfl, rfl⟩
  go_wp2_with fail
  go_ret
  exact ⟨rfl, rfl⟩
theorem turn_nil (i : Int) (was : Bool) (er : Int) (w : World) :
    Calls Try.prog 40 #[.pointer none, .int .i64 i, .bool was, .int .i64 er] w fun e w' => e = .returned (.int .i64 8) ∧ w = w' := by
  go_enter Try.func40, Try.ntmps40
  go_wp2
  go_ret
  exact ⟨rfl, rfl⟩
theorem turn_any (b : Nat) (l : List Bool) (i : Int) (was : Bool) (er : Int) (w : World) (h : At w b l) :
    Calls Try.prog 40 #[.pointer (some ⟨b, 0, none⟩), .int .i64 i, .bool was, .int .i64 er] w fun e w' => e = .returned (.int .i64 (turnL l i was er).2) ∧ At w' b (turnL l i was er).1 ∧ w.grownBy w' (some b) := by
  unfold turnL
  by_cases hi : 0 ≤ i ∧ i < l.length
  · rw [if_neg (by omega)]
    by_cases hw : l.getD i.toNat false = was
    · rw [if_neg (fun hc => hc hw)]
      have := turn_yes b l i.toNat was er w h (by omega) hw
      rwa [Int.toNat_of_nonneg hi.1] at this
    · rw [if_pos hw]
      refine (turn_same b l i was er w h hi (by rw [hasL_in hi.1]; exact hw)).mono ?_
      rintro e w' ⟨rfl, rfl⟩
      exact ⟨rfl, h, grown_same _ _⟩
  · rw [if_pos (by omega)]
    refine (turn_out b l i was er w h hi).mono ?_
    rintro e w' ⟨rfl, rfl⟩
    exact ⟨rfl, h, grown_same _ _⟩
theorem add_any (b : Nat) (l : List Bool) (i : Int) (w : World) (h : At w b l) :
    Calls Try.prog 28 #[.pointer (some ⟨b, 0, none⟩), .int .i64 i] w fun e w' => e = .returned (.int .i64 (addL l i).2) ∧ At w' b (addL l i).1 ∧ w.grownBy w' (some b) := by
  rw [addL_turn]
  go_enter Try.func28, Try.ntmps28
  go_wp2_with fail
  refine (turn_any b l i false 7 _ h).mono ?_
  rintro e w' ⟨rfl, h1, h2⟩
  go_wp2_with fail
  go_ret
  exact ⟨rfl, h1, h2⟩
theorem drop_any (b : Nat) (l : List Bool) (i : Int) (w : World) (h : At w b l) :
    Calls Try.prog 30 #[.pointer (some ⟨b, 0, none⟩), .int .i64 i] w fun e w' => e = .returned (.int .i64 (dropL l i).2) ∧ At w' b (dropL l i).1 ∧ w.grownBy w' (some b) := by
  rw [dropL_turn]
  go_enter Try.func30, Try.ntmps30
  go_wp2_with fail
  refine (turn_any b l i true 6 _ h).mono ?_
  rintro e w' ⟨rfl, h1, h2⟩
  go_wp2_with fail
  go_ret
  exact ⟨rfl, h1, h2⟩
theorem add_nil (i : Int) (w : World) :
    Calls Try.prog 28 #[.pointer none, .int .i64 i] w fun e w' => e = .returned (.int .i64 8) ∧ w = w' := by
  go_enter Try.func28, Try.ntmps28
  go_wp2_with fail
  refine (turn_nil i false 7 _).mono ?_
  rintro e w' ⟨rfl, rfl⟩
  go_wp2_with fail
  go_ret
  exact ⟨rfl, rfl⟩
theorem drop_nil (i : Int) (w : World) :
    Calls Try.prog 30 #[.pointer none, .int .i64 i] w fun e w' => e = .returned (.int .i64 8) ∧ w = w' := by
  go_enter Try.func30, Try.ntmps30
  go_wp2_with fail
  refine (turn_nil i true 6 _).mono ?_
  rintro e w' ⟨rfl, rfl⟩
  go_wp2_with fail
  go_ret
  exact ⟨rfl, rfl⟩
theorem first_nil (i : Int) (c : Bool) (w : World) :
    Calls Try.prog 39 #[.pointer none, .int .i64 i, .bool c] w fun e w' => e = .returned (.int .i64 (-1)) ∧ w = w' := by
  go_enter Try.func39, Try.ntmps39
  go_wp2
  go_ret
  exact ⟨rfl, rfl⟩
set_option maxHeartbeats 1000000 in
theorem first_pos (b : Nat) (l : List Bool) (i : Nat) (c : Bool) (w : World) (h : At w b l) :
    Calls Try.prog 39 #[.pointer (some ⟨b, 0, none⟩), .int .i64 i, .bool c] w fun e w' => e = .returned (.int .i64 (firstAt l c i)) ∧ w = w' := by
  have HAt := Lib.hid h
  obtain ⟨ws, hw, hs⟩ := h
  have hl := hs.2.2.1
  have hn : w.cell? ⟨b, 64, none⟩ = some (.int .i64 l.length) := (cell_blk hw).trans (cells_n hs.1)
  have HW : Hid (∀ k : Nat, k < 64 → w.cell? ⟨b, k, none⟩ = some (.int .u64 ((ws.getD k 0 : Nat) : Int))) := Lib.hid fun k hk => (cell_blk hw).trans (cells_word hs.1 hk)
  have HS := Lib.hid hs
  clear hw hs
  go_enter Try.func39, Try.ntmps39
  go_wp2
  go_loopg [7, 8] 4200 (fun g v7 v8 wr => ∃ (j : Nat), Aside0 (j + g ≥ 4200) ∧ v7 = .int .i64 j ∧ Aside0 (firstAt l c i = firstAt l c j) ∧ wr = w)
  case atStart => exact ⟨i, ⟨by omega⟩, by go_num, ⟨rfl⟩, rfl⟩
  case round =>
    obtain ⟨gk0, rfl⟩ : ∃ g, g = gk := ⟨_, rfl⟩
    obtain ⟨j, HJ, rfl, HT, rfl⟩ := hrel
    by_cases hj : j < l.length
    · have hx := HW.out (j / 64) (by omega)
      have hylt : ws.getD (j / 64) 0 < 18446744073709551616 := by
        have hs := HS.out
        rw [List.getD_eq_getElem?_getD, List.getElem?_eq_getElem (by have := hs.1; omega)]
        exact hs.2.1 _ (List.getElem_mem _)
      obtain ⟨y, hye⟩ : ∃ y, y = ws.getD (j / 64) 0 := ⟨_, rfl⟩
      rw [← hye] at hx hylt
      have HY := Aside0.mk hye
      clear hye
      have HH : Hid (hasL l (j : Int) = l.getD j false) := Lib.hid (hasL_in (by omega))
      by_cases hsk : j % 64 = 0 ∧ (y = 0 ∧ c = true ∨ y = 18446744073709551615 ∧ c = false)
      · have HSK : Aside0 (firstAt l c i = firstAt l c (j + 64)) := by
          refine ⟨?_⟩
          rw [HT.out]
          refine first_skip 64 fun k hk hl' => ?_
          have := HS.out.2.2.2 (j + k) (by omega)
          rw [← this]
          unfold mem
          rw [show (j + k) / 64 = j / 64 by omega, ← HY.out]
          rcases hsk.2 with ⟨rfl, rfl⟩ | ⟨rfl, rfl⟩
          · simp
          · rw [show (18446744073709551615 : Nat) = 2 ^ 64 - 1 by omega, Nat.testBit_two_pow_sub_one]
            simp; omega
        obtain ⟨hm, ⟨rfl, rfl⟩ | ⟨rfl, rfl⟩⟩ := hsk
        · go_wp2
          go_roundg (gk0 - 64)
          case measure => have := HJ.out; omega
          case rel => exact ⟨j + 64, ⟨by have := HJ.out; omega⟩, by go_num, HSK, rfl⟩
        · go_wp2
          go_roundg (gk0 - 64)
          case measure => have := HJ.out; omega
          case rel => exact ⟨j + 64, ⟨by have := HJ.out; omega⟩, by go_num, HSK, rfl⟩
      · have HHAS : Aside0 (hasL l (j : Int) = c → firstAt l c j = j) := ⟨fun h => first_hit hj (by rw [← HH.out, h])⟩
        have HNOT : Aside0 (hasL l (j : Int) ≠ c → firstAt l c j = firstAt l c (j + 1)) := ⟨fun h => first_miss fun _ => by rw [← HH.out]; exact h⟩
        by_cases hm : j % 64 = 0
        · cases c
          · have hy : ¬ y = 18446744073709551615 := fun h => hsk ⟨hm, .inr ⟨h, rfl⟩⟩
            clear hsk
            by_cases hct : (hasL l (j : Int) == false) = true
            · by_cases hy2 : y = 0
              all_goals
                go_wp2_with (go_at_call 34; refine (has_any b l j _ HAt.out).mono ?_; rintro e w' ⟨rfl, rfl⟩)
                go_ret
                refine ⟨?_, rfl⟩
                rw [HT.out, HHAS.out (by simpa using hct)]
                rfl
            · rw [Bool.not_eq_true] at hct
              by_cases hy2 : y = 0
              all_goals
                go_wp2_with (go_at_call 34; refine (has_any b l j _ HAt.out).mono ?_; rintro e w' ⟨rfl, rfl⟩)
                go_roundg (gk0 - 1)
                case measure => have := HJ.out; omega
                case rel => exact ⟨j + 1, ⟨by have := HJ.out; omega⟩, by go_num, ⟨by rw [HT.out, HNOT.out (by simpa using hct)]⟩, rfl⟩
          · have hy : ¬ y = 0 := fun h => hsk ⟨hm, .inl ⟨h, rfl⟩⟩
            clear hsk
            by_cases hct : (hasL l (j : Int) == true) = true
            · by_cases hy2 : y = 18446744073709551615
              all_goals
                go_wp2_with (go_at_call 34; refine (has_any b l j _ HAt.out).mono ?_; rintro e w' ⟨rfl, rfl⟩)
                go_ret
                refine ⟨?_, rfl⟩
                rw [HT.out, HHAS.out (by simpa using hct)]
                rfl
            · rw [Bool.not_eq_true] at hct
              by_cases hy2 : y = 18446744073709551615
              all_goals
                go_wp2_with (go_at_call 34; refine (has_any b l j _ HAt.out).mono ?_; rintro e w' ⟨rfl, rfl⟩)
                go_roundg (gk0 - 1)
                case measure => have := HJ.out; omega
                case rel => exact ⟨j + 1, ⟨by have := HJ.out; omega⟩, by go_num, ⟨by rw [HT.out, HNOT.out (by simpa using hct)]⟩, rfl⟩
        · clear hsk
          by_cases hct : (hasL l (j : Int) == c) = true
          · go_wp2_with (go_at_call 34; refine (has_any b l j _ HAt.out).mono ?_; rintro e w' ⟨rfl, rfl⟩)
            go_ret
            refine ⟨?_, rfl⟩
            rw [HT.out, HHAS.out (by simpa using hct)]
            rfl
          · rw [Bool.not_eq_true] at hct
            go_wp2_with (go_at_call 34; refine (has_any b l j _ HAt.out).mono ?_; rintro e w' ⟨rfl, rfl⟩)
            go_roundg (gk0 - 1)
            case measure => have := HJ.out; omega
            case rel => exact ⟨j + 1, ⟨by have := HJ.out; omega⟩, by go_num, ⟨by rw [HT.out, HNOT.out (by simpa using hct)]⟩, rfl⟩
    · go_wp2
      go_ret
      refine ⟨?_, rfl⟩
      rw [HT.out, first_end (by omega)]
      rfl
set_option maxHeartbeats 1000000 in
theorem first_neg (b : Nat) (l : List Bool) (i : Int) (c : Bool) (w : World) (h : At w b l) (hi : i < 0) :
    Calls Try.prog 39 #[.pointer (some ⟨b, 0, none⟩), .int .i64 i, .bool c] w fun e w' => e = .returned (.int .i64 (firstAt l c 0)) ∧ w = w' := by
  have HAt := Lib.hid h
  obtain ⟨ws, hw, hs⟩ := h
  have hl := hs.2.2.1
  have hn : w.cell? ⟨b, 64, none⟩ = some (.int .i64 l.length) := (cell_blk hw).trans (cells_n hs.1)
  have HW : Hid (∀ k : Nat, k < 64 → w.cell? ⟨b, k, none⟩ = some (.int .u64 ((ws.getD k 0 : Nat) : Int))) := Lib.hid fun k hk => (cell_blk hw).trans (cells_word hs.1 hk)
  have HS := Lib.hid hs
  clear hw hs
  go_enter Try.func39, Try.ntmps39
  go_wp2
  go_loopg [7, 8] 4200 (fun g v7 v8 wr => ∃ (j : Nat), Aside0 (j + g ≥ 4200) ∧ v7 = .int .i64 j ∧ Aside0 (firstAt l c 0 = firstAt l c j) ∧ wr = w)
  case atStart => exact ⟨0, ⟨by omega⟩, by go_num, ⟨rfl⟩, rfl⟩
  case round =>
    obtain ⟨gk0, rfl⟩ : ∃ g, g = gk := ⟨_, rfl⟩
    obtain ⟨j, HJ, rfl, HT, rfl⟩ := hrel
    by_cases hj : j < l.length
    · have hx := HW.out (j / 64) (by omega)
      have hylt : ws.getD (j / 64) 0 < 18446744073709551616 := by
        have hs := HS.out
        rw [List.getD_eq_getElem?_getD, List.getElem?_eq_getElem (by have := hs.1; omega)]
        exact hs.2.1 _ (List.getElem_mem _)
      obtain ⟨y, hye⟩ : ∃ y, y = ws.getD (j / 64) 0 := ⟨_, rfl⟩
      rw [← hye] at hx hylt
      have HY := Aside0.mk hye
      clear hye
      have HH : Hid (hasL l (j : Int) = l.getD j false) := Lib.hid (hasL_in (by omega))
      by_cases hsk : j % 64 = 0 ∧ (y = 0 ∧ c = true ∨ y = 18446744073709551615 ∧ c = false)
      · have HSK : Aside0 (firstAt l c 0 = firstAt l c (j + 64)) := by
          refine ⟨?_⟩
          rw [HT.out]
          refine first_skip 64 fun k hk hl' => ?_
          have := HS.out.2.2.2 (j + k) (by omega)
          rw [← this]
          unfold mem
          rw [show (j + k) / 64 = j / 64 by omega, ← HY.out]
          rcases hsk.2 with ⟨rfl, rfl⟩ | ⟨rfl, rfl⟩
          · simp
          · rw [show (18446744073709551615 : Nat) = 2 ^ 64 - 1 by omega, Nat.testBit_two_pow_sub_one]
            simp; omega
        obtain ⟨hm, ⟨rfl, rfl⟩ | ⟨rfl, rfl⟩⟩ := hsk
        · go_wp2
          go_roundg (gk0 - 64)
          case measure => have := HJ.out; omega
          case rel => exact ⟨j + 64, ⟨by have := HJ.out; omega⟩, by go_num, HSK, rfl⟩
        · go_wp2
          go_roundg (gk0 - 64)
          case measure => have := HJ.out; omega
          case rel => exact ⟨j + 64, ⟨by have := HJ.out; omega⟩, by go_num, HSK, rfl⟩
      · have HHAS : Aside0 (hasL l (j : Int) = c → firstAt l c j = j) := ⟨fun h => first_hit hj (by rw [← HH.out, h])⟩
        have HNOT : Aside0 (hasL l (j : Int) ≠ c → firstAt l c j = firstAt l c (j + 1)) := ⟨fun h => first_miss fun _ => by rw [← HH.out]; exact h⟩
        by_cases hm : j % 64 = 0
        · cases c
          · have hy : ¬ y = 18446744073709551615 := fun h => hsk ⟨hm, .inr ⟨h, rfl⟩⟩
            clear hsk
            by_cases hct : (hasL l (j : Int) == false) = true
            · by_cases hy2 : y = 0
              all_goals
                go_wp2_with (go_at_call 34; refine (has_any b l j _ HAt.out).mono ?_; rintro e w' ⟨rfl, rfl⟩)
                go_ret
                refine ⟨?_, rfl⟩
                rw [HT.out, HHAS.out (by simpa using hct)]
                rfl
            · rw [Bool.not_eq_true] at hct
              by_cases hy2 : y = 0
              all_goals
                go_wp2_with (go_at_call 34; refine (has_any b l j _ HAt.out).mono ?_; rintro e w' ⟨rfl, rfl⟩)
                go_roundg (gk0 - 1)
                case measure => have := HJ.out; omega
                case rel => exact ⟨j + 1, ⟨by have := HJ.out; omega⟩, by go_num, ⟨by rw [HT.out, HNOT.out (by simpa using hct)]⟩, rfl⟩
          · have hy : ¬ y = 0 := fun h => hsk ⟨hm, .inl ⟨h, rfl⟩⟩
            clear hsk
            by_cases hct : (hasL l (j : Int) == true) = true
            · by_cases hy2 : y = 18446744073709551615
              all_goals
                go_wp2_with (go_at_call 34; refine (has_any b l j _ HAt.out).mono ?_; rintro e w' ⟨rfl, rfl⟩)
                go_ret
                refine ⟨?_, rfl⟩
                rw [HT.out, HHAS.out (by simpa using hct)]
                rfl
            · rw [Bool.not_eq_true] at hct
              by_cases hy2 : y = 18446744073709551615
              all_goals
                go_wp2_with (go_at_call 34; refine (has_any b l j _ HAt.out).mono ?_; rintro e w' ⟨rfl, rfl⟩)
                go_roundg (gk0 - 1)
                case measure => have := HJ.out; omega
                case rel => exact ⟨j + 1, ⟨by have := HJ.out; omega⟩, by go_num, ⟨by rw [HT.out, HNOT.out (by simpa using hct)]⟩, rfl⟩
        · clear hsk
          by_cases hct : (hasL l (j : Int) == c) = true
          · go_wp2_with (go_at_call 34; refine (has_any b l j _ HAt.out).mono ?_; rintro e w' ⟨rfl, rfl⟩)
            go_ret
            refine ⟨?_, rfl⟩
            rw [HT.out, HHAS.out (by simpa using hct)]
            rfl
          · rw [Bool.not_eq_true] at hct
            go_wp2_with (go_at_call 34; refine (has_any b l j _ HAt.out).mono ?_; rintro e w' ⟨rfl, rfl⟩)
            go_roundg (gk0 - 1)
            case measure => have := HJ.out; omega
            case rel => exact ⟨j + 1, ⟨by have := HJ.out; omega⟩, by go_num, ⟨by rw [HT.out, HNOT.out (by simpa using hct)]⟩, rfl⟩
    · go_wp2
      go_ret
      refine ⟨?_, rfl⟩
      rw [HT.out, first_end (by omega)]
      rfl
theorem first_any (b : Nat) (l : List Bool) (i : Int) (c : Bool) (w : World) (h : At w b l) :
    Calls Try.prog 39 #[.pointer (some ⟨b, 0, none⟩), .int .i64 i, .bool c] w fun e w' => e = .returned (.int .i64 (firstL l i c)) ∧ w = w' := by
  unfold firstL
  by_cases hi : i < 0
  · have := first_neg b l i c w h hi
    rwa [show i.toNat = 0 by omega]
  · have := first_pos b l i.toNat c w h
    rwa [Int.toNat_of_nonneg (by omega)] at this
theorem next_any (b : Nat) (l : List Bool) (i : Int) (w : World) (h : At w b l) :
    Calls Try.prog 41 #[.pointer (some ⟨b, 0, none⟩), .int .i64 i] w fun e w' => e = .returned (.int .i64 (firstL l i true)) ∧ w = w' := by
  go_enter Try.func41, Try.ntmps41
  go_wp2_with fail
  refine (first_any b l i true _ h).mono ?_
  rintro e w' ⟨rfl, rfl⟩
  go_wp2_with fail
  go_ret
  exact ⟨rfl, rfl⟩
theorem gap_any (b : Nat) (l : List Bool) (i : Int) (w : World) (h : At w b l) :
    Calls Try.prog 27 #[.pointer (some ⟨b, 0, none⟩), .int .i64 i] w fun e w' => e = .returned (.int .i64 (firstL l i false)) ∧ w = w' := by
  go_enter Try.func27, Try.ntmps27
  go_wp2_with fail
  refine (first_any b l i false _ h).mono ?_
  rintro e w' ⟨rfl, rfl⟩
  go_wp2_with fail
  go_ret
  exact ⟨rfl, rfl⟩
theorem next_nil (i : Int) (w : World) :
    Calls Try.prog 41 #[.pointer none, .int .i64 i] w fun e w' => e = .returned (.int .i64 (-1)) ∧ w = w' := by
  go_enter Try.func41, Try.ntmps41
  go_wp2_with fail
  refine (first_nil i true _).mono ?_
  rintro e w' ⟨rfl, rfl⟩
  go_wp2_with fail
  go_ret
  exact ⟨rfl, rfl⟩
theorem gap_nil (i : Int) (w : World) :
    Calls Try.prog 27 #[.pointer none, .int .i64 i] w fun e w' => e = .returned (.int .i64 (-1)) ∧ w = w' := by
  go_enter Try.func27, Try.ntmps27
  go_wp2_with fail
  refine (first_nil i false _).mono ?_
  rintro e w' ⟨rfl, rfl⟩
  go_wp2_with fail
  go_ret
  exact ⟨rfl, rfl⟩
end Bits
end Go.Proofs.Ythmdpmpnlphfdaa
