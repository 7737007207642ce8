/- The walks of the room's three laws. -/
import Derived.Test.YtbcifbogmjfpoaaRl
import Derived.Deep.QuietTactic
import Derived.BigQuiet
namespace Go.Proofs.Ytbcifbogmjfpoaa
open Go.RowKit
open Go.Proofs.YtbcifbogmjfpoaaW.PrintWords Go.Proofs.YtbcifbogmjfpoaaW.PrintLast Go.Proofs.YtbcifbogmjfpoaaW.PrintMore
open PRoomTells
namespace Room
theorem below_of_drawn {w w1 w2 : World} (h : Drawn0 w w1) (k : Below w1.heap.size w1 w2) : Below w.heap.size w w2 := by
  have hb := h.below
  exact below_then hb hb.size k

set_option maxHeartbeats 1000000 in
theorem lays_walk (a0 : Int) (w : World) : Calls Try.prog 4 #[.int .i64 a0] w fun e w' => e = .returned (.bool true) ∧ Below w.heap.size w w' := by
  have HB := Aside0.mk (Below.refl w.heap.size w)
  have hlog := Aside0.mk (log_f a0)
  have hdata := Aside0.mk (data_f a0)
  have hsec := Aside0.mk (sectors_f a0)
  cases hm : may a0 with
  | false =>
    have e1 : room_Log.f a0 = some 0 := by rw [log_f, log, hm]; rfl
    have e2 : room_Data.f a0 = some 0 := by rw [data_f, data, hm]; rfl
    have e3 : room_Sectors.f a0 = some 0 := by rw [sectors_f, log, hm]; rfl
    have E1 := Aside0.mk e1
    have E2 := Aside0.mk e2
    have E3 := Aside0.mk e3
    clear e1 e2 e3
    by_cases h1 : a0 < 16
    · go_enter Try.func4, Try.ntmps4
      go_wp2_with fail
      refine (room_Log.calls a0 0 _ E1.out).mono ?_
      rintro e w' ⟨rfl, ⟨nd, rfl⟩⟩
      go_wp2_with fail
      refine (room_Data.calls a0 0 _ E2.out).mono ?_
      rintro e w' ⟨rfl, ⟨nd, rfl⟩⟩
      go_wp2_with fail
      refine (room_Sectors.calls a0 0 _ E3.out).mono ?_
      rintro e w' ⟨rfl, ⟨nd, rfl⟩⟩
      go_wp2_with fail
      refine (awake_any _).mono ?_
      rintro e w' ⟨rfl, hb⟩
      go_wp2_with fail
      go_ret
      exact ⟨rfl, below_of_drawn (by repeat (first | exact Drawn0.refl _ | apply Drawn0.step)) hb⟩
    · have h2 : 1024 < a0 := by
        have : ¬ (16 ≤ a0 ∧ a0 ≤ 1024) := by
          intro hc
          simp [may, hc.1, hc.2] at hm
        omega
      go_enter Try.func4, Try.ntmps4
      go_wp2_with fail
      refine (room_Log.calls a0 0 _ E1.out).mono ?_
      rintro e w' ⟨rfl, ⟨nd, rfl⟩⟩
      go_wp2_with fail
      refine (room_Data.calls a0 0 _ E2.out).mono ?_
      rintro e w' ⟨rfl, ⟨nd, rfl⟩⟩
      go_wp2_with fail
      refine (room_Sectors.calls a0 0 _ E3.out).mono ?_
      rintro e w' ⟨rfl, ⟨nd, rfl⟩⟩
      go_wp2_with fail
      refine (awake_any _).mono ?_
      rintro e w' ⟨rfl, hb⟩
      go_wp2_with fail
      go_ret
      exact ⟨rfl, below_of_drawn (by repeat (first | exact Drawn0.refl _ | apply Drawn0.step)) hb⟩
  | true =>
    have hb := may_bd hm
    have e1 : room_Log.f a0 = some (2 + a0 / 8) := by rw [log_f, log, hm]; rfl
    have e2 : room_Data.f a0 = some (4 + a0 / 8) := by rw [data_f, data, hm]; rfl
    have e3 : room_Sectors.f a0 = some (4 * (2 + a0 / 8)) := by rw [sectors_f, log, hm]; rfl
    have E1 := Aside0.mk e1
    have E2 := Aside0.mk e2
    have E3 := Aside0.mk e3
    clear e1 e2 e3 hm
    obtain ⟨hb1, hb2⟩ := hb
    have hq : (4 + a0 / 8 == 2 + (2 + a0 / 8)) = true := by simp; omega
    go_enter Try.func4, Try.ntmps4
    go_wp2_with fail
    refine (room_Log.calls a0 _ _ E1.out).mono ?_
    rintro e w' ⟨rfl, ⟨nd, rfl⟩⟩
    go_wp2_with fail
    refine (room_Data.calls a0 _ _ E2.out).mono ?_
    rintro e w' ⟨rfl, ⟨nd, rfl⟩⟩
    go_wp2_with fail
    refine (room_Sectors.calls a0 _ _ E3.out).mono ?_
    rintro e w' ⟨rfl, ⟨nd, rfl⟩⟩
    go_wp2_with fail
    refine (awake_any _).mono ?_
    rintro e w' ⟨rfl, hb⟩
    go_wp2_with fail
    go_ret
    exact ⟨rfl, below_of_drawn (by repeat (first | exact Drawn0.refl _ | apply Drawn0.step)) hb⟩

set_option maxHeartbeats 2000000 in
theorem tells_walk (a0 : Int) (A1 : Option Addr) (c1 : Nat) (l : List Int) (a2 : Int) (w : World) (h0 : -9223372036854775808 ≤ a0 ∧ a0 ≤ 9223372036854775807) (h2 : a2 ≤ 9223372036854775807) (hr : Kd.C (Kd.int .i64) w A1 l.length l) (hc : l.length ≤ c1) :
    Calls Try.prog 3 #[.int .i64 a0, .slice A1 l.length c1, .int .i64 a2] w fun e w' => e = .returned (.bool true) ∧ Below w.heap.size w w' := by
  by_cases hl : 300 < l.length
  · clear hr
    go_enter Try.func3, Try.ntmps3
    go_wp2_with fail
    refine (awake_any _).mono ?_
    rintro e w' ⟨rfl, hb⟩
    go_wp2_with fail
    go_ret
    exact ⟨rfl, hb⟩
  · obtain ⟨mn, hmn⟩ := man_some a2
    have E1 := Aside0.mk hmn
    have HR := Aside0.mk hr
    have HC := Aside0.mk hc
    have HL : Aside0 (l.length ≤ 4096) := ⟨by omega⟩
    obtain ⟨lg, hlg⟩ : ∃ x, x = log a0 := ⟨_, rfl⟩
    obtain ⟨dt, hdt⟩ : ∃ x, x = data a0 := ⟨_, rfl⟩
    obtain ⟨cl, hcl⟩ : ∃ x, x = cells l := ⟨_, rfl⟩
    have L1 : Aside0 (room_Log.f a0 = some lg) := ⟨by rw [hlg, log_f]⟩
    have L2 : Aside0 (chantryref30_Log.f a0 = some lg) := ⟨by rw [hlg, rlog_f]⟩
    have D1 : Aside0 (room_Data.f a0 = some dt) := ⟨by rw [hdt, data_f]⟩
    have D2 : Aside0 (chantryref30_Data.f a0 = some dt) := ⟨by rw [hdt, rdata_f]⟩
    have S1 : Aside0 (room_Sectors.f a0 = some (4 * lg)) := ⟨by rw [hlg, sectors_f]⟩
    have S2 : Aside0 (chantryref30_Sectors.f a0 = some (4 * lg)) := ⟨by rw [hlg, rsectors_f]⟩
    have C1 : Aside0 (room_Cells.f (l.length + 2) l = some cl) := ⟨by rw [hcl, cells_f l HL.out]⟩
    have C2 : Aside0 (chantryref30_Cells.f (l.length + 2) l = some cl) := ⟨by rw [hcl, rcells_f l HL.out]⟩
    have M1 : Aside0 (∀ b, room_Manifest.f a2 b = some mn) := ⟨fun b => by rw [man_f, hmn]⟩
    obtain ⟨en, hen⟩ : ∃ x, x = enough a0 l a2 := ⟨_, rfl⟩
    have N1 : Aside0 (en = enough a0 l a2) := ⟨hen⟩
    have N2 : Aside0 (chantryref30_Enough.f (l.length + 2) a0 l a2 = some en) := ⟨by rw [hen, renough_f a0 l a2 HL.out h2 h0]⟩
    clear hr hc hlg hdt hcl hmn hen
    go_enter Try.func3, Try.ntmps3
    go_wp2_with fail
    refine (room_Log.calls a0 _ _ L1.out).mono ?_
    rintro e w' ⟨rfl, ⟨n1, rfl⟩⟩
    go_wp2_with fail
    refine (chantryref30_Log.calls a0 _ _ L2.out).mono ?_
    rintro e w' ⟨rfl, ⟨n2, rfl⟩⟩
    go_wp2_with fail
    refine (room_Data.calls a0 _ _ D1.out).mono ?_
    rintro e w' ⟨rfl, ⟨n3, rfl⟩⟩
    go_wp2_with fail
    refine (chantryref30_Data.calls a0 _ _ D2.out).mono ?_
    rintro e w' ⟨rfl, ⟨n4, rfl⟩⟩
    go_wp2_with fail
    refine (room_Sectors.calls a0 _ _ S1.out).mono ?_
    rintro e w' ⟨rfl, ⟨n5, rfl⟩⟩
    go_wp2_with fail
    refine (chantryref30_Sectors.calls a0 _ _ S2.out).mono ?_
    rintro e w' ⟨rfl, ⟨n6, rfl⟩⟩
    go_wp2_with fail
    refine (room_Cells.calls (l.length + 2) _ _ l _ _ ?_ HC.out C1.out).mono ?_
    · exact Kd.C_drewN HR.out _
    rintro e w' ⟨rfl, ⟨n7, rfl⟩⟩
    go_wp2_with fail
    refine (chantryref30_Cells.calls (l.length + 2) _ _ l _ _ ?_ HC.out C2.out).mono ?_
    · exact Kd.C_drewN HR.out _
    rintro e w' ⟨rfl, ⟨n8, rfl⟩⟩
    go_wp2_with fail
    refine (room_Manifest.calls a2 true _ _ (M1.out _)).mono ?_
    rintro e w' ⟨rfl, ⟨n9, rfl⟩⟩
    go_wp2_with fail
    refine (chantryref30_Manifest.calls a2 _ _ E1.out).mono ?_
    rintro e w' ⟨rfl, ⟨n10, rfl⟩⟩
    go_wp2_with fail
    refine (room_Manifest.calls a2 false _ _ (M1.out _)).mono ?_
    rintro e w' ⟨rfl, ⟨n11, rfl⟩⟩
    go_wp2_with fail
    refine (chantryref30_Manifest.calls a2 _ _ E1.out).mono ?_
    rintro e w' ⟨rfl, ⟨n12, rfl⟩⟩
    go_wp2_with fail
    refine (enough_at a0 _ _ _ l a2 en _ rfl ?_ HC.out HL.out N1.out.symm).mono ?_
    · exact Kd.C_drewN HR.out _
    rintro e w' ⟨rfl, ⟨n13, rfl⟩⟩
    go_wp2_with fail
    refine (chantryref30_Enough.calls (l.length + 2) a0 _ _ l a2 en _ ?_ HC.out N2.out).mono ?_
    · exact Kd.C_drewN HR.out _
    rintro e w' ⟨rfl, ⟨n14, rfl⟩⟩
    go_wp2_with fail
    refine (awake_any _).mono ?_
    rintro e w' ⟨rfl, hb⟩
    go_wp2_with fail
    go_ret
    exact ⟨rfl, below_of_drawn (by repeat (first | exact Drawn0.refl _ | apply Drawn0.step)) hb⟩
end Room
end Go.Proofs.Ytbcifbogmjfpoaa
