/- room's examples. -/
import Derived.Test.YtbcifbogmjfpoaaRw
import Derived.WalkSpells
import Derived.WalkLawsBesides
namespace Go.Proofs.Ytbcifbogmjfpoaa
open Go.RowKit
open Go.Proofs.YtbcifbogmjfpoaaW.PrintWords Go.Proofs.YtbcifbogmjfpoaaW.PrintLast Go.Proofs.YtbcifbogmjfpoaaW.PrintMore
open PRoomTells
namespace Room
theorem C_blk {W : World} {b t : Nat} {fr : Nat × Nat} (n : Nat) (xs : List Int) (hn : n = xs.length) (h : W.heap[b]? = some (.cells (xs.map (Value.int .i64)).toArray t fr)) (hx : xs.length ≤ 1000) : Kd.C (Kd.int .i64) W (some ⟨b, 0, none⟩) n xs := by
  subst hn
  refine ⟨rfl, by omega, fun _ => ⟨_, rfl, fun j p hj => ⟨[.int .i64 p], rfl, rfl, fun i u hu => ?_⟩⟩⟩
  have hi : i = 0 := by
    cases i with
    | zero => rfl
    | succ i => simp at hu
  subst hi
  simp at hu
  subst hu
  have ha : (⟨b, 0, none⟩ : Addr).add (j * 1 + 0) = ⟨b, j, none⟩ := by
    rw [add_plain]; simp
  show World.cell? _ (Addr.add _ (j * 1 + 0)) = _
  rw [ha]
  unfold World.cell?
  rw [h]
  simp [hj]
theorem heap_new (W : World) (o : Obj) (b : Nat) (hb : b = W.heap.size) : (W.alloc o).heap[b]? = some o := by subst hb; exact heap_alloc_new W o
theorem C_none (w : World) : Kd.C (Kd.int .i64) w none 0 [] := ⟨rfl, by omega, fun h => absurd h (by omega)⟩

theorem enough_at (bl : Int) (A1 : Option Addr) (n c1 : Nat) (l1 : List Int) (sn : Int) (r : Bool) (w : World) (hn : n = l1.length) (hr1 : Kd.C (Kd.int .i64) w A1 n l1) (hc1 : n ≤ c1) (hl : l1.length ≤ 4096) (h : enough bl l1 sn = r) :
    Calls Try.prog 20 #[.int .i64 bl, .slice A1 n c1, .int .i64 sn] w fun e w' => e = .returned (.bool r) ∧ Drawn0 w w' := by
  subst hn
  rw [← h]
  exact enough_any bl A1 c1 l1 sn w hr1 hc1 hl
theorem cells_at (A1 : Option Addr) (n c1 : Nat) (l1 : List Int) (r : Int) (w : World) (hn : n = l1.length) (hr1 : Kd.C (Kd.int .i64) w A1 n l1) (hc1 : n ≤ c1) (hl : l1.length ≤ 4096) (h : cells l1 = r) :
    Calls Try.prog 16 #[.slice A1 n c1] w fun e w' => e = .returned (.int .i64 r) ∧ Drawn0 w w' := by
  subst hn
  rw [← h]
  exact room_Cells.calls (l1.length + 2) A1 c1 l1 _ w hr1 hc1 (cells_f l1 hl)

theorem l16 : room_Log.f 16 = some 4 := by rw [log_f]; rfl
theorem l15 : room_Log.f 15 = some 0 := by rw [log_f]; rfl
theorem d16 : room_Data.f 16 = some 6 := by rw [data_f]; rfl
theorem d1025 : room_Data.f 1025 = some 0 := by rw [data_f]; rfl
theorem s16 : room_Sectors.f 16 = some 16 := by rw [sectors_f]; rfl
theorem m8 : room_Manifest.f 8 true = some 1 := rfl
theorem m9 : room_Manifest.f 9 false = some 0 := rfl
theorem c1 : cells [1] = 1 := by rfl
theorem c0 : cells [] = 0 := by rfl
theorem e1 : enough 64 [100, 100] 1 = true := by rfl
theorem e2 : enough 16 [100] 1 = false := by rfl
theorem e3 : enough 64 [0] 1 = false := by rfl
theorem e4 : enough 64 [] 0 = true := by rfl
theorem cells_lit1 (W : World) (b : Nat) (h : W.heap[b]? = some (.cells #[.int .i64 1] 3 (0, 0))) : Calls Try.prog 16 #[.slice (some ⟨b, 0, none⟩) 1 1] W fun e w' => e = .returned (.int .i64 1) ∧ Drawn0 W w' :=
  cells_at _ 1 1 [1] 1 W rfl (C_blk 1 [1] rfl h (by decide)) (by decide) (by decide) c1
theorem enough_lit1 (W : World) (b : Nat) (h : W.heap[b]? = some (.cells #[.int .i64 100, .int .i64 100] 3 (0, 0))) : Calls Try.prog 20 #[.int .i64 64, .slice (some ⟨b, 0, none⟩) 2 2, .int .i64 1] W fun e w' => e = .returned (.bool true) ∧ Drawn0 W w' :=
  enough_at 64 _ 2 2 [100, 100] 1 true W rfl (C_blk 2 [100, 100] rfl h (by decide)) (by decide) (by decide) e1
theorem enough_lit2 (W : World) (b : Nat) (h : W.heap[b]? = some (.cells #[.int .i64 100] 3 (0, 0))) : Calls Try.prog 20 #[.int .i64 16, .slice (some ⟨b, 0, none⟩) 1 1, .int .i64 1] W fun e w' => e = .returned (.bool false) ∧ Drawn0 W w' :=
  enough_at 16 _ 1 1 [100] 1 false W rfl (C_blk 1 [100] rfl h (by decide)) (by decide) (by decide) e2
theorem enough_lit3 (W : World) (b : Nat) (h : W.heap[b]? = some (.cells #[.int .i64 0] 3 (0, 0))) : Calls Try.prog 20 #[.int .i64 64, .slice (some ⟨b, 0, none⟩) 1 1, .int .i64 1] W fun e w' => e = .returned (.bool false) ∧ Drawn0 W w' :=
  enough_at 64 _ 1 1 [0] 1 false W rfl (C_blk 1 [0] rfl h (by decide)) (by decide) (by decide) e3
theorem enough_lit4 (W : World) : Calls Try.prog 20 #[.int .i64 64, .slice none 0 0, .int .i64 0] W fun e w' => e = .returned (.bool true) ∧ Drawn0 W w' :=
  enough_at 64 none 0 0 [] 0 true W rfl (C_none _) (by decide) (by decide) e4
theorem cells_lit0 (W : World) : Calls Try.prog 16 #[.slice none 0 0] W fun e w' => e = .returned (.int .i64 0) ∧ Drawn0 W w' :=
  cells_at none 0 0 [] 0 W rfl (C_none _) (by decide) (by decide) c0
set_option maxHeartbeats 1000000 in
theorem awake_any (w : World) : Calls Try.prog 9 #[] w fun e w' => e = .returned (.bool true) ∧ Below w.heap.size w w' := by
  have HB := Aside0.mk (Below.refl w.heap.size w)
  go_enter Try.func9, Try.ntmps9
  go_wp2_with fail
  refine (room_Log.calls 16 4 _ l16).mono ?_
  rintro e w' ⟨rfl, ⟨nd, rfl⟩⟩
  go_wp2_with fail
  refine (room_Data.calls 16 6 _ d16).mono ?_
  rintro e w' ⟨rfl, ⟨nd, rfl⟩⟩
  go_wp2_with fail
  refine (room_Sectors.calls 16 16 _ s16).mono ?_
  rintro e w' ⟨rfl, ⟨nd, rfl⟩⟩
  go_wp2_with fail
  refine (room_Log.calls 15 0 _ l15).mono ?_
  rintro e w' ⟨rfl, ⟨nd, rfl⟩⟩
  go_wp2_with fail
  refine (room_Data.calls 1025 0 _ d1025).mono ?_
  rintro e w' ⟨rfl, ⟨nd, rfl⟩⟩
  go_wp2_with fail
  refine (cells_lit1 _ _ ?_).mono ?_
  · exact heap_new _ _ _ (by simp)
  rintro e w' ⟨rfl, ⟨nd, rfl⟩⟩
  go_wp2_with fail
  refine (cells_lit0 _).mono ?_
  rintro e w' ⟨rfl, ⟨nd, rfl⟩⟩
  go_wp2_with fail
  refine (room_Manifest.calls 8 true 1 _ m8).mono ?_
  rintro e w' ⟨rfl, ⟨nd, rfl⟩⟩
  go_wp2_with fail
  refine (room_Manifest.calls 9 false 0 _ m9).mono ?_
  rintro e w' ⟨rfl, ⟨nd, rfl⟩⟩
  go_wp2_with fail
  refine (enough_lit1 _ _ ?_).mono ?_
  · exact heap_new _ _ _ (by simp)
  rintro e w' ⟨rfl, ⟨nd, rfl⟩⟩
  go_wp2_with fail
  refine (enough_lit2 _ _ ?_).mono ?_
  · exact heap_new _ _ _ (by simp)
  rintro e w' ⟨rfl, ⟨nd, rfl⟩⟩
  go_wp2_with fail
  refine (enough_lit3 _ _ ?_).mono ?_
  · exact heap_new _ _ _ (by simp)
  rintro e w' ⟨rfl, ⟨nd, rfl⟩⟩
  go_wp2_with fail
  refine (enough_lit4 _).mono ?_
  rintro e w' ⟨rfl, ⟨nd, rfl⟩⟩
  go_wp2_with fail
  go_ret
  exact ⟨rfl, by repeat (first | (with_reducible first | exact HB.out | apply below_alloc | apply pw_below_drewN | apply below_drew1) | exact HB.out)⟩
end Room
end Go.Proofs.Ytbcifbogmjfpoaa
