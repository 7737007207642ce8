/- The walk of the room's third law: what is enough is so for fewer. -/
import Derived.Test.YtbcifbogmjfpoaaRv
import Derived.Test.YtbcifbogmjfpoaaReg
import Derived.Deep.QuietTactic
import Derived.BigQuiet
namespace Go.Proofs.Ytbcifbogmjfpoaa
open Go.RowKit
open Go.Proofs.YtbcifbogmjfpoaaW.PrintWords Go.Proofs.YtbcifbogmjfpoaaW.PrintLast Go.Proofs.YtbcifbogmjfpoaaW.PrintMore
open PRoomTells
namespace Room
theorem C_take {w : World} {A : Option Addr} {n k : Nat} {l : List Int} (h : Kd.C (Kd.int .i64) w A n l) (hk : k ≤ n) : Kd.C (Kd.int .i64) w A k (l.take k) := by
  obtain ⟨h1, h2, h3⟩ := h
  refine ⟨by rw [List.length_take]; omega, by omega, fun h0 => ?_⟩
  obtain ⟨ad, ha, hh⟩ := h3 (by omega)
  refine ⟨ad, ha, fun j p hj => hh j p ?_⟩
  rw [List.getElem?_take] at hj
  split at hj
  · exact hj
  · cases hj

set_option maxHeartbeats 1000000 in
theorem fewer_in (a0 : Int) (A1 : Option Addr) (c1 : Nat) (l : List Int) (n0 n1 : Int) (w : World) (hr : Kd.C (Kd.int .i64) w A1 l.length l) (hc : l.length ≤ c1) (h0 : 0 ≤ n0) (h1 : n0 ≤ l.length) (h2 : 0 ≤ n1) (hn1 : n1 ≤ 9223372036854775807) (hl : l.length ≤ 300) :
    Calls Try.prog 5 #[.int .i64 a0, .slice A1 l.length c1, .agg #[.int .i64 n0, .int .i64 n1]] w fun e w' => e = .returned (.bool true) ∧ Below w.heap.size w w' := by
  have HR := Aside0.mk hr
  have HC := Aside0.mk hc
  have HL : Aside0 (l.length ≤ 4096) := ⟨by omega⟩
  clear hr hc
  obtain ⟨W, hW⟩ : ∃ W, W = w.alloc (.cells #[.int .i64 n0, .int .i64 n1] 29) := ⟨_, rfl⟩
  have hWb : Below w.heap.size w W := by rw [hW]; exact below_alloc (Below.refl _ _) _
  have hWc : W.heap[w.heap.size]? = some (.cells #[.int .i64 n0, .int .i64 n1] 29 (0, 0)) := by rw [hW]; exact heap_new _ _ _ rfl
  obtain ⟨E, hE⟩ : ∃ E, E = enough a0 l n1 := ⟨_, rfl⟩
  have HE := Aside0.mk hE
  clear hE
  have hn0c : n0 ≤ (c1 : Int) := by have := HC.out; omega
  have hdiv : n1 / 2 ≤ n1 := by omega
  have hdiv0 : 0 ≤ n1 / 2 := by omega
  go_enter Try.func5, Try.ntmps5
  go_wp2
  rw [← hW]
  clear hW
  have hlt : w.heap.size < W.heap.size := (Array.getElem?_eq_some_iff.1 hWc).1
  refine Go.Reg.region (Below W.heap.size W) [.s, .s, .s, .s, .w, .s, .s, .s, .s, .s, .s, .s, .s, .s, .s, .w, .s, .s, .w, .s, .s] (by kernel_rfl) (by kernel_rfl) (below_drew1 (Below.refl _ _)) (fun ne => ?_)
  have hx0 : ∀ m : Go.Reg.In (Below W.heap.size W), m.w.cell? ⟨w.heap.size, 0, none⟩ = some (.int .i64 n0) := fun m => by
    rw [m.h.cell (p := ⟨w.heap.size, 0, none⟩) hlt]
    unfold World.cell?
    rw [hWc]
    rfl
  have hx1 : ∀ m : Go.Reg.In (Below W.heap.size W), m.w.cell? ⟨w.heap.size, 1, none⟩ = some (.int .i64 n1) := fun m => by
    rw [m.h.cell (p := ⟨w.heap.size, 1, none⟩) hlt]
    unfold World.cell?
    rw [hWc]
    rfl
  cases E with
  | false =>
    refine Go.Reg.lex_q 4 _ _ _ _ (by rfl) ?_; simp only [List.take_succ_cons, List.take_zero, List.drop_succ_cons, List.drop_zero]; (repeat (go_big_quiet_step (fail))); refine wpQuiet_nil ?_
    refine Go.Reg.step_w (fun K hK => ?_)
    go_wp2_with fail
    refine (enough_at a0 _ _ _ l n1 false _ rfl ?_ HC.out HL.out HE.out.symm).mono ?_
    · exact Kd.C_drew (Kd.C_below HR.out hWb)
    rintro e w' ⟨rfl, ⟨nd, rfl⟩⟩
    go_wp2_with fail
    refine hK.out _ _ (by repeat (first | exact Below.refl _ _ | apply pw_below_drewN | apply below_drew1)) ?_
    clear hK K
    refine Go.Reg.lex_q 10 _ _ _ _ (by rfl) ?_; simp only [List.take_succ_cons, List.take_zero, List.drop_succ_cons, List.drop_zero]; (repeat (go_big_quiet_step (fail))); refine wpQuiet_nil ?_
    refine Go.Reg.step_w (fun K hK => ?_)
    go_wp2_with fail
    refine hK.out _ _ (by repeat (first | exact Below.refl _ _ | apply pw_below_drewN | apply below_drew1)) ?_
    clear hK K
    refine Go.Reg.lex_q 2 _ _ _ _ (by rfl) ?_; simp only [List.take_succ_cons, List.take_zero, List.drop_succ_cons, List.drop_zero]; (repeat (go_big_quiet_step (fail))); refine wpQuiet_nil ?_
    refine Go.Reg.step_w (fun K hK => ?_)
    go_wp2_with fail
    refine (awake_any _).mono ?_
    rintro e w' ⟨rfl, hb⟩
    have hb1 : Below W.heap.size W (W.drewN (1 + nd)) := pw_below_drewN (Below.refl _ _) _
    have hb2 : Below W.heap.size W w' := below_then hb1 hb1.size hb
    have HB2 := Aside0.mk hb2
    clear hb hb2 hb1
    go_wp2_with fail
    refine hK.out _ _ HB2.out ?_
    clear hK K
    refine Go.Reg.lex_q 2 _ _ _ _ (by rfl) ?_; simp only [List.take_succ_cons, List.take_zero, List.drop_succ_cons, List.drop_zero]; (repeat (go_big_quiet_step (fail))); refine wpQuiet_nil ?_
    refine Go.Reg.lex_nil ?_
    go_wp2
    go_ret
    exact ⟨rfl, below_then hWb hWb.size HB2.out⟩
  | true =>
    have hF : enough a0 (l.take n0.toNat) (n1 / 2) = true := fewer a0 l n0.toNat n1 (n1 / 2) hdiv0 hdiv (by omega) HE.out.symm
    have HF := Aside0.mk hF
    clear hF
    refine Go.Reg.lex_q 4 _ _ _ _ (by rfl) ?_; simp only [List.take_succ_cons, List.take_zero, List.drop_succ_cons, List.drop_zero]; (repeat (go_big_quiet_step (fail))); refine wpQuiet_nil ?_
    refine Go.Reg.step_w (fun K hK => ?_)
    go_wp2_with fail
    refine (enough_at a0 _ _ _ l n1 true _ rfl ?_ HC.out HL.out HE.out.symm).mono ?_
    · exact Kd.C_drew (Kd.C_below HR.out hWb)
    rintro e w' ⟨rfl, ⟨nd, rfl⟩⟩
    go_wp2_with fail
    refine hK.out _ _ (by repeat (first | exact Below.refl _ _ | apply pw_below_drewN | apply below_drew1)) ?_
    clear hK K
    refine Go.Reg.lex_q 10 _ _ _ _ (by rfl) ?_; simp only [List.take_succ_cons, List.take_zero, List.drop_succ_cons, List.drop_zero]; (repeat (go_big_quiet_step (fail))); refine wpQuiet_nil ?_
    refine Go.Reg.step_w (fun K hK => ?_)
    go_wp2_with fail
    refine (enough_at a0 _ _ _ (l.take n0.toNat) (n1 / 2) true _ (by rw [List.length_take]; omega) ?_ (by omega) (by rw [List.length_take]; omega) HF.out).mono ?_
    · exact Kd.C_drewN (C_take (Kd.C_below HR.out hWb) (by omega)) _
    rintro e w' ⟨rfl, ⟨nd2, rfl⟩⟩
    go_wp2_with fail
    refine hK.out _ _ (by repeat (first | exact Below.refl _ _ | apply pw_below_drewN | apply below_drew1)) ?_
    clear hK K
    refine Go.Reg.lex_q 2 _ _ _ _ (by rfl) ?_; simp only [List.take_succ_cons, List.take_zero, List.drop_succ_cons, List.drop_zero]; (repeat (go_big_quiet_step (fail))); refine wpQuiet_nil ?_
    refine Go.Reg.step_w (fun K hK => ?_)
    go_wp2_with fail
    refine (awake_any _).mono ?_
    rintro e w' ⟨rfl, hb⟩
    have hb2 : Below W.heap.size W w' := by
      refine below_then ?_ ?_ hb
      · repeat (first | exact Below.refl _ _ | apply pw_below_drewN | apply below_drew1)
      · exact Nat.le_refl _
    have HB2 := Aside0.mk hb2
    clear hb hb2
    go_wp2_with fail
    refine hK.out _ _ HB2.out ?_
    clear hK K
    refine Go.Reg.lex_q 2 _ _ _ _ (by rfl) ?_; simp only [List.take_succ_cons, List.take_zero, List.drop_succ_cons, List.drop_zero]; (repeat (go_big_quiet_step (fail))); refine wpQuiet_nil ?_
    refine Go.Reg.lex_nil ?_
    go_wp2
    go_ret
    exact ⟨rfl, below_then hWb hWb.size HB2.out⟩

set_option maxHeartbeats 1000000 in
theorem fewer_walk (a0 : Int) (A1 : Option Addr) (c1 : Nat) (l : List Int) (n0 n1 : Int) (w : World) (hr : Kd.C (Kd.int .i64) w A1 l.length l) (hc : l.length ≤ c1) (hn1 : n1 ≤ 9223372036854775807) :
    Calls Try.prog 5 #[.int .i64 a0, .slice A1 l.length c1, .agg #[.int .i64 n0, .int .i64 n1]] w fun e w' => e = .returned (.bool true) ∧ Below w.heap.size w w' := by
  by_cases hin : l.length ≤ 300 ∧ 0 ≤ n0 ∧ n0 ≤ l.length ∧ 0 ≤ n1
  · exact fewer_in a0 A1 c1 l n0 n1 w hr hc hin.2.1 hin.2.2.1 hin.2.2.2 hn1 hin.1
  · clear hr
    have hbx : (decide (300 < (l.length : Int)) || decide (n0 < 0) || decide ((l.length : Int) < n0) || decide (n1 < 0)) = true := by
      simp only [Bool.or_eq_true, decide_eq_true_eq]
      omega
    go_enter Try.func5, Try.ntmps5
    go_wp2_with fail
    all_goals
      refine (awake_any _).mono ?_
      rintro e w' ⟨rfl, hb⟩
      go_wp2_with fail
      go_ret
      exact ⟨rfl, below_then (below_alloc (Below.refl _ _) _) (below_alloc (Below.refl w.heap.size w) _).size hb⟩
end Room
end Go.Proofs.Ytbcifbogmjfpoaa
