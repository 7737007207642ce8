/- What room.Enough answers, for every disk, every sizes, every snapshot. -/
import Derived.Test.YtbcifbogmjfpoaaProg
import Derived.Test.YtbcifbogmjfpoaaRp
import Derived.Below
import Derived.WalkMore
import Derived.OwnWalk
import Derived.WalkKit
import Derived.KernelRfl
import Derived.RowKit3
import Derived.Deep.LoopGhost
import Derived.Deep.QuietTactic
import Derived.BigQuiet
import Derived.WideLaws
import Derived.Outline
import Derived.Deep.DeepCutAuto
import Derived.Deep.CutBlock
import Derived.WalkSpells
import Derived.WalkLawsBesides
namespace Go.Proofs.Ytbcifbogmjfpoaa
open Go.RowKit
open Go.Proofs.YtbcifbogmjfpoaaW.PrintWords Go.Proofs.YtbcifbogmjfpoaaW.PrintLast Go.Proofs.YtbcifbogmjfpoaaW.PrintMore
open PRoomTells
namespace Room

theorem drop4 (a b c d : Int) (j : Nat) (hj : j < 4) : [a, b, c, d].drop j = [a, b, c, d].getD j 0 :: [a, b, c, d].drop (j + 1) := by
  match j, hj with
  | 0, _ => rfl
  | 1, _ => rfl
  | 2, _ => rfl
  | 3, _ => rfl

set_option maxHeartbeats 1000000 in
theorem enough_yes (bl : Int)
    (A1 : Option Addr) (c1 : Nat) (l1 : List Int) (sn c : Int) (w : World) (hr1 : Kd.C (Kd.int .i64) w A1 l1.length l1) (hc1 : l1.length ≤ c1)
    (hcells : room_Cells.f (l1.length + 2) l1 = some c) (hdata : room_Data.f bl = some (4 + bl / 8)) (hbl : 16 ≤ bl) (hbl2 : bl ≤ 1024) (hsn : 0 ≤ sn) (hc0 : 0 ≤ c) (hmay : room_may.f bl = some true) (hc : (c == 0) = false) (hl : 0 < l1.length) :
    Calls Try.prog 20 #[.int .i64 bl, .slice A1 l1.length c1, .int .i64 sn] w fun e w' => e = .returned (.bool (twice [c, sn, 1, 8] (bl - (4 + bl / 8)))) ∧ Drawn0 w w' := by
  have hman : room_Manifest.f 8 true = some 1 := by decide
  have HR1 := Aside0.mk hr1
  have HC := Aside0.mk hcells
  have HD := Aside0.mk hdata
  have HM := Aside0.mk hmay
  have HMan := Aside0.mk hman
  clear hr1 hcells hdata hmay hman
  have hsn' : decide (sn < 0) = false := by simp; omega
  go_enter Try.func20, Try.ntmps20
  go_wp2
  go_step3
  go_wp2_with (first
    | (go_at_call 16; refine (room_Cells.calls (l1.length + 2) _ _ l1 c _ HR1.out hc1 HC.out).mono ?_; rintro e w' ⟨rfl, ⟨nd, rfl⟩⟩)
    | (go_at_call 40; refine (room_may.calls bl true _ HM.out).mono ?_; rintro e w' ⟨rfl, ⟨nd, rfl⟩⟩)
    | (go_at_call 12; refine (room_Data.calls bl (4 + bl / 8) _ HD.out).mono ?_; rintro e w' ⟨rfl, ⟨nd, rfl⟩⟩))
  go_step3
  go_wp2_with (first
    | (go_at_call 18; refine (room_Manifest.calls 8 true 1 _ HMan.out).mono ?_; rintro e w' ⟨rfl, ⟨nd, rfl⟩⟩))
  have hix : ∀ (j : Nat) (w : World), j < 4 → (Instr.index 56 (.agg #[.int .i64 c, .int .i64 sn, .int .i64 1, .int .i64 8]) (.int .i64 j)).run Try.prog w = .ok (.int .i64 ([c, sn, 1, 8].getD j 0)) w := by
    intro j w hj
    match j, hj with
    | 0, _ => rfl
    | 1, _ => rfl
    | 2, _ => rfl
    | 3, _ => rfl
  have HIX := Aside0.mk hix
  clear hix
  go_loopg [8, 37] 4 (fun g v8 v37 wr => ∃ (j : Nat) (left : Int), Aside0 (j + g = 4) ∧ v37 = .int .i64 j ∧ v8 = .int .i64 left ∧ 0 ≤ left ∧ left ≤ 1024 ∧ Aside0 (twice ([c,sn,1,8].drop j) left = twice [c,sn,1,8] (bl - (4 + bl / 8))) ∧ Drawn0 w wr)
  case atStart => exact ⟨0, bl - (4 + bl / 8), ⟨rfl⟩, rfl, rfl, by omega, by omega, ⟨rfl⟩, by repeat (first | exact Drawn0.refl _ | apply Drawn0.step)⟩
  case round =>
    obtain ⟨gk0, rfl⟩ : ∃ g, g = gk := ⟨_, rfl⟩
    obtain ⟨j, left, HJ, rfl, rfl, hl0, hl1, HT, HD0⟩ := hrel
    by_cases hj : j < 4
    · have hix1 := fun w => HIX.out j w hj
      obtain ⟨n, hn⟩ : ∃ n, n = [c, sn, 1, 8].getD j 0 := ⟨_, rfl⟩
      rw [← hn] at hix1
      have HN := Aside0.mk hn
      clear hn
      go_wp2
      go_loopg [8, 40] 2 (fun g v8 v40 wr' => ∃ (i : Nat) (left' : Int), Aside0 (i + g = 2) ∧ v40 = .int .i64 i ∧ v8 = .int .i64 left' ∧ 0 ≤ left' ∧ left' ≤ 1024 ∧ Aside0 (i = 0 ∧ left' = left ∨ i = 1 ∧ n ≤ left ∧ left' = left - n ∨ i = 2 ∧ n ≤ left ∧ n ≤ left - n ∧ left' = left - n - n) ∧ wr' = wr)
      case atStart => exact ⟨0, left, ⟨rfl⟩, rfl, rfl, by omega, by omega, ⟨.inl ⟨rfl, rfl⟩⟩, rfl⟩
      case round =>
        obtain ⟨i, left', HI, rfl, rfl, hl0', hl1', HC', rfl⟩ := hrel
        by_cases hi : i < 2
        · have hn0 : 0 ≤ n := by
            have := HN.out
            match j, hj with
            | 0, _ => simp at this; omega
            | 1, _ => simp at this; omega
            | 2, _ => simp at this; omega
            | 3, _ => simp at this; omega
          by_cases hgt : n ≤ left'
          · go_wp2
            go_roundg (gk - 1)
            case measure => have := HI.out; omega
            case rel => exact ⟨i + 1, left' - n, ⟨by have := HI.out; omega⟩, by go_num, rfl, by omega, by omega, ⟨by have := HC'.out; omega⟩, rfl⟩
          · go_wp2
            go_ret
            refine ⟨?_, by repeat (first | exact HD0 | apply Drawn0.step)⟩
            have h1 := HT.out
            have h2 := HC'.out
            rw [← h1]
            have h3 : twice (List.drop j [c, sn, 1, 8]) left = false := by
              rw [drop4 c sn 1 8 j hj, ← HN.out]
              rw [twice_cons]
              rcases h2 with ⟨_, h2⟩ | ⟨_, h2, h4⟩ | ⟨_, h2, h4, h5⟩
              · rw [if_pos (by omega)]
              · rw [if_neg (by omega), if_pos (by omega)]
              · omega
            rw [h3]
            rfl
        · go_wp2
          go_roundg (gk0 - 1)
          case measure => have := HJ.out; omega
          case rel =>
            refine ⟨j + 1, left', ⟨by have := HJ.out; omega⟩, by go_num, rfl, by omega, by omega, ⟨?_⟩, HD0⟩
            have h1 := HT.out
            have h2 := HC'.out
            have h3 := HI.out
            rw [← h1, drop4 c sn 1 8 j hj, ← HN.out]
            rw [twice_cons]
            obtain ⟨h5, h6, h7⟩ : n ≤ left ∧ n ≤ left - n ∧ left' = left - n - n := by omega
            rw [if_neg (by omega), if_neg (by omega), h7]
    · go_wp2
      rw [Exit.noGoto_ret]
      go_ret
      refine ⟨?_, by repeat (first | exact HD0 | apply Drawn0.step)⟩
      have h1 := HT.out
      have h2 : twice [] left = true := by simp [twice]; omega
      rw [← h1, List.drop_eq_nil_of_le (by simp only [List.length_cons, List.length_nil]; omega), h2]
      rfl

set_option maxHeartbeats 1000000 in
theorem enough_none (bl : Int)
    (A1 : Option Addr) (c1 : Nat) (l1 : List Int) (sn c : Int) (w : World) (hr1 : Kd.C (Kd.int .i64) w A1 l1.length l1) (hc1 : l1.length ≤ c1)
    (hcells : room_Cells.f (l1.length + 2) l1 = some c) (hdata : room_Data.f bl = some (4 + bl / 8)) (hbl : 16 ≤ bl) (hbl2 : bl ≤ 1024) (hsn : 0 ≤ sn) (hc0 : 0 ≤ c) (hmay : room_may.f bl = some true) (hl : (decide (0 < l1.length)) = false) :
    Calls Try.prog 20 #[.int .i64 bl, .slice A1 l1.length c1, .int .i64 sn] w fun e w' => e = .returned (.bool (twice [c, sn, 1, 8] (bl - (4 + bl / 8)))) ∧ Drawn0 w w' := by
  have hman : room_Manifest.f 8 true = some 1 := by decide
  have HR1 := Aside0.mk hr1
  have HC := Aside0.mk hcells
  have HD := Aside0.mk hdata
  have HM := Aside0.mk hmay
  have HMan := Aside0.mk hman
  clear hr1 hcells hdata hmay hman
  have hsn' : decide (sn < 0) = false := by simp; omega
  go_enter Try.func20, Try.ntmps20
  go_wp2
  go_step3
  go_wp2_with (first
    | (go_at_call 16; refine (room_Cells.calls (l1.length + 2) _ _ l1 c _ HR1.out hc1 HC.out).mono ?_; rintro e w' ⟨rfl, ⟨nd, rfl⟩⟩)
    | (go_at_call 40; refine (room_may.calls bl true _ HM.out).mono ?_; rintro e w' ⟨rfl, ⟨nd, rfl⟩⟩)
    | (go_at_call 12; refine (room_Data.calls bl (4 + bl / 8) _ HD.out).mono ?_; rintro e w' ⟨rfl, ⟨nd, rfl⟩⟩))
  go_step3
  go_wp2_with (first
    | (go_at_call 18; refine (room_Manifest.calls 8 true 1 _ HMan.out).mono ?_; rintro e w' ⟨rfl, ⟨nd, rfl⟩⟩))
  have hix : ∀ (j : Nat) (w : World), j < 4 → (Instr.index 56 (.agg #[.int .i64 c, .int .i64 sn, .int .i64 1, .int .i64 8]) (.int .i64 j)).run Try.prog w = .ok (.int .i64 ([c, sn, 1, 8].getD j 0)) w := by
    intro j w hj
    match j, hj with
    | 0, _ => rfl
    | 1, _ => rfl
    | 2, _ => rfl
    | 3, _ => rfl
  have HIX := Aside0.mk hix
  clear hix
  go_loopg [8, 37] 4 (fun g v8 v37 wr => ∃ (j : Nat) (left : Int), Aside0 (j + g = 4) ∧ v37 = .int .i64 j ∧ v8 = .int .i64 left ∧ 0 ≤ left ∧ left ≤ 1024 ∧ Aside0 (twice ([c,sn,1,8].drop j) left = twice [c,sn,1,8] (bl - (4 + bl / 8))) ∧ Drawn0 w wr)
  case atStart => exact ⟨0, bl - (4 + bl / 8), ⟨rfl⟩, rfl, rfl, by omega, by omega, ⟨rfl⟩, by repeat (first | exact Drawn0.refl _ | apply Drawn0.step)⟩
  case round =>
    obtain ⟨gk0, rfl⟩ : ∃ g, g = gk := ⟨_, rfl⟩
    obtain ⟨j, left, HJ, rfl, rfl, hl0, hl1, HT, HD0⟩ := hrel
    by_cases hj : j < 4
    · have hix1 := fun w => HIX.out j w hj
      obtain ⟨n, hn⟩ : ∃ n, n = [c, sn, 1, 8].getD j 0 := ⟨_, rfl⟩
      rw [← hn] at hix1
      have HN := Aside0.mk hn
      clear hn
      go_wp2
      go_loopg [8, 40] 2 (fun g v8 v40 wr' => ∃ (i : Nat) (left' : Int), Aside0 (i + g = 2) ∧ v40 = .int .i64 i ∧ v8 = .int .i64 left' ∧ 0 ≤ left' ∧ left' ≤ 1024 ∧ Aside0 (i = 0 ∧ left' = left ∨ i = 1 ∧ n ≤ left ∧ left' = left - n ∨ i = 2 ∧ n ≤ left ∧ n ≤ left - n ∧ left' = left - n - n) ∧ wr' = wr)
      case atStart => exact ⟨0, left, ⟨rfl⟩, rfl, rfl, by omega, by omega, ⟨.inl ⟨rfl, rfl⟩⟩, rfl⟩
      case round =>
        obtain ⟨i, left', HI, rfl, rfl, hl0', hl1', HC', rfl⟩ := hrel
        by_cases hi : i < 2
        · have hn0 : 0 ≤ n := by
            have := HN.out
            match j, hj with
            | 0, _ => simp at this; omega
            | 1, _ => simp at this; omega
            | 2, _ => simp at this; omega
            | 3, _ => simp at this; omega
          by_cases hgt : n ≤ left'
          · go_wp2
            go_roundg (gk - 1)
            case measure => have := HI.out; omega
            case rel => exact ⟨i + 1, left' - n, ⟨by have := HI.out; omega⟩, by go_num, rfl, by omega, by omega, ⟨by have := HC'.out; omega⟩, rfl⟩
          · go_wp2
            go_ret
            refine ⟨?_, by repeat (first | exact HD0 | apply Drawn0.step)⟩
            have h1 := HT.out
            have h2 := HC'.out
            rw [← h1]
            have h3 : twice (List.drop j [c, sn, 1, 8]) left = false := by
              rw [drop4 c sn 1 8 j hj, ← HN.out]
              rw [twice_cons]
              rcases h2 with ⟨_, h2⟩ | ⟨_, h2, h4⟩ | ⟨_, h2, h4, h5⟩
              · rw [if_pos (by omega)]
              · rw [if_neg (by omega), if_pos (by omega)]
              · omega
            rw [h3]
            rfl
        · go_wp2
          go_roundg (gk0 - 1)
          case measure => have := HJ.out; omega
          case rel =>
            refine ⟨j + 1, left', ⟨by have := HJ.out; omega⟩, by go_num, rfl, by omega, by omega, ⟨?_⟩, HD0⟩
            have h1 := HT.out
            have h2 := HC'.out
            have h3 := HI.out
            rw [← h1, drop4 c sn 1 8 j hj, ← HN.out]
            rw [twice_cons]
            obtain ⟨h5, h6, h7⟩ : n ≤ left ∧ n ≤ left - n ∧ left' = left - n - n := by omega
            rw [if_neg (by omega), if_neg (by omega), h7]
    · go_wp2
      rw [Exit.noGoto_ret]
      go_ret
      refine ⟨?_, by repeat (first | exact HD0 | apply Drawn0.step)⟩
      have h1 := HT.out
      have h2 : twice [] left = true := by simp [twice]; omega
      rw [← h1, List.drop_eq_nil_of_le (by simp only [List.length_cons, List.length_nil]; omega), h2]
      rfl

set_option maxHeartbeats 1000000 in
theorem enough_no (bl : Int) (A1 : Option Addr) (c1 : Nat) (l1 : List Int) (sn c : Int) (m : Bool) (w : World) (hr1 : Kd.C (Kd.int .i64) w A1 l1.length l1) (hc1 : l1.length ≤ c1)
    (hcells : room_Cells.f (l1.length + 2) l1 = some c) (hmay : room_may.f bl = some m) (hno : (!m || decide (sn < 0) || (decide (0 < l1.length) && c == 0)) = true) :
    Calls Try.prog 20 #[.int .i64 bl, .slice A1 l1.length c1, .int .i64 sn] w fun e w' => e = .returned (.bool false) ∧ Drawn0 w w' := by
  have HR1 := Aside0.mk hr1
  have HC := Aside0.mk hcells
  have HM := Aside0.mk hmay
  clear hr1 hcells hmay
  have arms : True := trivial
  cases m with
  | false =>
    go_enter Try.func20, Try.ntmps20
    go_wp2
    go_step3
    go_wp2_with (first
      | (go_at_call 16; refine (room_Cells.calls (l1.length + 2) _ _ l1 c _ HR1.out hc1 HC.out).mono ?_; rintro e w' ⟨rfl, ⟨nd, rfl⟩⟩)
      | (go_at_call 40; refine (room_may.calls bl false _ HM.out).mono ?_; rintro e w' ⟨rfl, ⟨nd, rfl⟩⟩))
    rw [Exit.noGoto_ret]
    go_ret
    exact ⟨rfl, by repeat (first | exact Drawn0.refl _ | apply Drawn0.step)⟩
  | true =>
    cases hs : decide (sn < 0) with
    | true =>
      go_enter Try.func20, Try.ntmps20
      go_wp2
      go_step3
      go_wp2_with (first
        | (go_at_call 16; refine (room_Cells.calls (l1.length + 2) _ _ l1 c _ HR1.out hc1 HC.out).mono ?_; rintro e w' ⟨rfl, ⟨nd, rfl⟩⟩)
        | (go_at_call 40; refine (room_may.calls bl true _ HM.out).mono ?_; rintro e w' ⟨rfl, ⟨nd, rfl⟩⟩))
      rw [Exit.noGoto_ret]
      go_ret
      exact ⟨rfl, by repeat (first | exact Drawn0.refl _ | apply Drawn0.step)⟩
    | false =>
      rw [hs] at hno
      have h1 : decide (0 < l1.length) = true := by simp at hno; simpa using hno.1
      have h2 : (c == 0) = true := by simp at hno; simpa using hno.2
      go_enter Try.func20, Try.ntmps20
      go_wp2
      go_step3
      go_wp2_with (first
        | (go_at_call 16; refine (room_Cells.calls (l1.length + 2) _ _ l1 c _ HR1.out hc1 HC.out).mono ?_; rintro e w' ⟨rfl, ⟨nd, rfl⟩⟩)
        | (go_at_call 40; refine (room_may.calls bl true _ HM.out).mono ?_; rintro e w' ⟨rfl, ⟨nd, rfl⟩⟩))
      rw [Exit.noGoto_ret]
      go_ret
      exact ⟨rfl, by repeat (first | exact Drawn0.refl _ | apply Drawn0.step)⟩

theorem enough_any (bl : Int) (A1 : Option Addr) (c1 : Nat) (l1 : List Int) (sn : Int) (w : World) (hr1 : Kd.C (Kd.int .i64) w A1 l1.length l1) (hc1 : l1.length ≤ c1) (hl : l1.length ≤ 4096) :
    Calls Try.prog 20 #[.int .i64 bl, .slice A1 l1.length c1, .int .i64 sn] w fun e w' => e = .returned (.bool (enough bl l1 sn)) ∧ Drawn0 w w' := by
  have hcb := cells_bd l1
  cases hm : may bl with
  | false =>
    refine (enough_no bl A1 c1 l1 sn (cells l1) false w hr1 hc1 (cells_f l1 hl) (by rw [may_f, hm]) rfl).mono ?_
    rintro e w' ⟨rfl, hd⟩
    exact ⟨by simp [enough, hm], hd⟩
  | true =>
    have hb := may_bd hm
    by_cases hs : sn < 0
    · refine (enough_no bl A1 c1 l1 sn (cells l1) true w hr1 hc1 (cells_f l1 hl) (by rw [may_f, hm]) (by simp [hs])).mono ?_
      rintro e w' ⟨rfl, hd⟩
      exact ⟨by simp [enough, show ¬ 0 ≤ sn by omega], hd⟩
    · have hdf : room_Data.f bl = some (4 + bl / 8) := by rw [data_f, data, if_pos hm]
      by_cases h0 : 0 < l1.length
      · by_cases hz : cells l1 = 0
        · refine (enough_no bl A1 c1 l1 sn (cells l1) true w hr1 hc1 (cells_f l1 hl) (by rw [may_f, hm]) (by simp [hz, h0])).mono ?_
          rintro e w' ⟨rfl, hd⟩
          exact ⟨by simp [enough, hz, h0], hd⟩
        · refine (enough_yes bl A1 c1 l1 sn (cells l1) w hr1 hc1 (cells_f l1 hl) hdf hb.1 hb.2 (by omega) hcb.1 (by rw [may_f, hm]) (by simpa using hz) h0).mono ?_
          rintro e w' ⟨rfl, hd⟩
          exact ⟨by simp [enough, hm, hz, show 0 ≤ sn by omega], hd⟩
      · refine (enough_none bl A1 c1 l1 sn (cells l1) w hr1 hc1 (cells_f l1 hl) hdf hb.1 hb.2 (by omega) hcb.1 (by rw [may_f, hm]) (by simpa using h0)).mono ?_
        rintro e w' ⟨rfl, hd⟩
        exact ⟨by simp [enough, hm, h0, show 0 ≤ sn by omega], hd⟩
end Room
end Go.Proofs.Ytbcifbogmjfpoaa
