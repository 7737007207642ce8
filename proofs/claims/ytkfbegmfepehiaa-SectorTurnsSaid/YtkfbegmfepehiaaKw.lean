/- Walks: what was sealed, in the document -/
import Derived.Test.YtkfbegmfepehiaaKv
import Derived.Below
import Derived.Lib.Hide
import Derived.OwnWalk
import Derived.WalkKit
import Derived.KernelRfl
import Derived.RowKit3
import Derived.Deep.LoopGhost
import Derived.Deep.QuietTactic
import Derived.BigQuiet
import Derived.WideLaws
import Derived.Great.BuildSlice
import Derived.Outline
import Derived.Deep.DeepCutAuto
import Derived.WalkSpells
import Derived.RegionTactic
import Derived.BigRegion
import Derived.WalkLawsBesides
import Derived.IntWalk
import Derived.Deep.Slices
import Derived.Lib.AppendZerosOnto
namespace Go.Proofs.Ytkfbegmfepehiaa
set_option linter.unusedVariables false
set_option linter.unusedSimpArgs false
open Go.RowKit Go.Proofs.YtkfbegmfepehiaaW.PrintWords Go.Proofs.YtkfbegmfepehiaaW.PrintLast Go.Proofs.YtkfbegmfepehiaaW.PrintMore
namespace Cell
open Go.Num Go.Crc PCellGets

theorem byte_inj {x y : Int} (hx : 0 ≤ x ∧ x ≤ 255) (hy : 0 ≤ y ∧ y ≤ 255) (h : UInt8.ofNat x.toNat = UInt8.ofNat y.toNat) : x = y := by
  have := congrArg UInt8.toNat h
  rw [UInt8.toNat_ofNat', UInt8.toNat_ofNat', Nat.mod_eq_of_lt (by omega), Nat.mod_eq_of_lt (by omega)] at this
  omega
theorem map_inj : ∀ {xs ys : List Int}, (∀ x ∈ xs, 0 ≤ x ∧ x ≤ 255) → (∀ x ∈ ys, 0 ≤ x ∧ x ≤ 255) → (xs.map fun n => UInt8.ofNat n.toNat) = (ys.map fun n => UInt8.ofNat n.toNat) → xs = ys
  | [], [], _, _, _ => rfl
  | x :: xs, y :: ys, hx, hy, h => by
    simp only [List.map_cons, List.cons.injEq] at h
    rw [byte_inj (hx x List.mem_cons_self) (hy y List.mem_cons_self) h.1, map_inj (fun z hz => hx z (List.mem_cons_of_mem _ hz)) (fun z hz => hy z (List.mem_cons_of_mem _ hz)) h.2]
  | [], y :: ys, _, _, h => by simp at h
  | x :: xs, [], _, _, h => by simp at h
theorem str_inj {xs ys : List Int} (hx : ∀ x ∈ xs, 0 ≤ x ∧ x ≤ 255) (hy : ∀ x ∈ ys, 0 ≤ x ∧ x ≤ 255) (h : (strOfNums xs).toList = (strOfNums ys).toList) : xs = ys := by
  rw [ByteArray.toList_eq, ByteArray.toList_eq, strOfNums_data, strOfNums_data] at h
  exact map_inj hx hy h
theorem str8 {w : World} {base : Nat} {ok : Nat → Prop} {A : Option Addr} {l c : Nat} {xs : List Int} (h : Kd.R (Kd.int .u8) 5 w base ok (.slice A l c) xs) (x : World) (b : Below w.heap.size w x) : (convert 22 9 (.slice A l c)).run Try.prog x = .ok (.string (strOfNums xs)) x := by
  have h2 := Kd.R_below h b
  obtain ⟨A2, c2, e⟩ := Kd.R_slice h2
  cases e
  exact Kd.C_string Try.underlying22 Try.underlying5 Try.underlying9 (row_at h2)
theorem below_steps {x y z : World} (h : Below x.heap.size x y) (k : Below y.heap.size y z) : Below x.heap.size x z := h.trans (k.mono h.size)
theorem strC {w : World} {A : Option Addr} {n c : Nat} {xs : List Int} (h : Kd.C (Kd.int .u8) w A n xs) : (convert 22 9 (.slice A n c)).run Try.prog w = .ok (.string (strOfNums xs)) w :=
  Kd.C_string Try.underlying22 Try.underlying5 Try.underlying9 h
set_option maxHeartbeats 8000000 in
set_option maxRecDepth 100000 in
theorem xopen_any (A : Option Addr) (c : Nat) (l : List Int) (w : World) (hC : Kd.C (Kd.int .u8) w A l.length l) (hb : ∀ x ∈ l, 0 ≤ x ∧ x ≤ 255) (hl : l.length ≤ 200000) (hc : l.length ≤ c) :
    Calls Try.prog 47 #[.slice A l.length c] w fun e w' => ∃ A' c', e = .returned (.tuple #[.slice A' (openP l).1.length c', .int .i64 (openP l).2]) ∧ (openP l).1.length ≤ c' ∧ (∀ x, Below w.heap.size w x → Kd.C (Kd.int .u8) x A' (openP l).1.length (openP l).1) ∧ Below w.heap.size w w' := by
  have HC := Aside0.mk hC
  have HBY := Aside0.mk hb
  have HNIL := Aside0.mk (show ∀ x : World, Kd.C (Kd.int .u8) x none 0 [] from fun x => ⟨rfl, by decide, fun h => absurd h (by decide)⟩)
  clear hC hb
  obtain ⟨R, hR⟩ : ∃ R, R = openP l := ⟨_, rfl⟩
  rw [← hR]
  by_cases h4 : l.length < 4
  · have HQ := Aside0.mk (show R = ([], 12) by rw [hR]; unfold openP; rw [if_pos (.inl h4)])
    clear hR
    have hneg : (l.length : Int) - 4 < 0 := by omega
    go_enter Try.func47, Try.ntmps47
    go_wp2_with fail
    refine Go.Rg.region (Below w.heap.size w) (fun x y => Below x.heap.size x y) (fun x => Below.refl _ x) (fun x y z => below_steps) [.s, .s, .s, .s, .s, .s, .v, .s, .s, .s, .s, .s] (by kernel_rfl) (by kernel_rfl) (below_drew1 (Below.refl _ _)) (fun ne => ?_)
    refine Go.Rg.lex_q 6 _ _ _ _ _ (by rfl) ?_; simp only [List.take_succ_cons, List.take_zero, List.drop_succ_cons, List.drop_zero]; (repeat (go_big_quiet_step (rfl))); refine wpQuiet_nil ?_
    refine Go.Rg.step_v (fun K' hK => ?_)
    go_wp2_with fail
    refine hK.out _ _ (below_drew1 (Below.refl _ _)) (Below.refl _ _) ?_
    clear hK K'
    try simp only [Act.put, List.setIfInBounds_toArray, List.set_cons_succ, List.set_cons_zero]
    refine Go.Rg.lex_q 5 _ _ _ _ _ (by rfl) ?_; simp only [List.take_succ_cons, List.take_zero, List.drop_succ_cons, List.drop_zero]; (repeat (go_big_quiet_step (rfl))); refine wpQuiet_nil ?_
    refine Go.Rg.lex_nil ?_
    go_wp2_with fail
    go_ret2
    exact ⟨none, 0, by rw [HQ.out]; rfl, by rw [HQ.out]; exact Nat.le_refl _, fun x hx => by rw [HQ.out]; exact HNIL.out x, below_drew1 (Below.refl _ _)⟩
  · obtain ⟨a, rfl⟩ : ∃ a, A = some a := by obtain ⟨a, ha, _⟩ := HC.out.2.2 (by omega); exact ⟨a, ha⟩
    obtain ⟨n, hn⟩ : ∃ n : Nat, l.length = n + 4 := ⟨l.length - 4, by omega⟩
    have ho : openP l = if l.drop n ≠ leB (Crc.sum (l.take n)) 4 then ([], 12) else (l.take n, 0) := by
      unfold openP
      rw [show l.length - 4 = n by omega]
      by_cases hd : l.drop n ≠ leB (Crc.sum (l.take n)) 4
      · rw [if_pos (.inr hd), if_pos hd]
      · rw [if_neg (by intro h; rcases h with h | h; omega; exact hd h), if_neg hd]
    have HRR := Aside0.mk (hR.trans ho)
    have HCT := Aside0.mk (show ∀ x, Below w.heap.size w x → Kd.C (Kd.int .u8) x (some a) n (l.take n) from fun x hx => take_C (Kd.C_below HC.out hx) n (by omega))
    have HTB := Aside0.mk (show ∀ x ∈ l.take n, 0 ≤ x ∧ x ≤ 255 from fun x hx => HBY.out x (List.mem_of_mem_take hx))
    have HTL := Aside0.mk (show (l.take n).length = n by rw [List.length_take]; omega)
    have HSL := Aside0.mk (show (sealB (l.take n)).length = n + 4 by rw [seal_len, HTL.out])
    have HLN := Aside0.mk hn
    rw [hn] at hl hc ⊢
    clear ho h4 hn hR
    have q2 : decide ((n : Int) < 0) = false := decide_eq_false (by omega)
    have q3 : (n : Int) ≤ (n : Int) + 4 := by omega
    have q4 : (n : Int) + 4 ≤ c := by omega
    have q5 : (n : Int) ≤ c := by omega
    obtain ⟨U, hU⟩ : ∃ U, U = strOfNums l := ⟨_, rfl⟩
    have HU := Aside0.mk hU
    have hsu : ∀ m : Go.Reg.In (Below w.heap.size w), (convert 22 9 (.slice (some a) (n + 4) c)).run Try.prog m.w = .ok (.string U) m.w := fun m => by rw [HU.out]; have := Kd.C_below HC.out m.h; rw [HLN.out] at this; exact strC this
    obtain ⟨T, hT⟩ : ∃ T, T = strOfNums (sealB (l.take n)) := ⟨_, rfl⟩
    have HT := Aside0.mk hT
    have HFIN := Aside0.mk (show (T = U ∧ R = (l.take n, 0)) ∨ (¬ T.toList = U.toList ∧ R = ([], 12)) by
      by_cases hd : l.drop n ≠ leB (Crc.sum (l.take n)) 4
      · right
        refine ⟨fun e => hd ?_, by rw [HRR.out, if_pos hd]⟩
        rw [hT, hU] at e
        have e2 := str_inj (seal_byte HTB.out) HBY.out e
        have e3 := congrArg (List.drop n) e2
        unfold sealB at e3
        rw [List.drop_append_of_le_length (by rw [HTL.out]; exact Nat.le_refl _), List.drop_eq_nil_of_le (by rw [HTL.out]; exact Nat.le_refl _), List.nil_append] at e3
        exact e3.symm
      · left
        refine ⟨?_, by rw [HRR.out, if_neg hd]⟩
        rw [hT, hU]
        congr 1
        unfold sealB
        have hd' : l.drop n = leB (Crc.sum (l.take n)) 4 := Classical.not_not.1 hd
        rw [← hd', List.take_append_drop])
    clear hU hT
    have STEP : ∀ (w1 : World) (b : Bool), True := fun _ _ => trivial
    rcases HFIN.out with ⟨hTU, hq⟩ | ⟨hTU, hq⟩
    all_goals
      have HQ := Aside0.mk hq
      clear hq STEP HFIN
      try subst hTU
      try have hne : (!T.toList == U.toList) = true := by simpa using hTU
      go_enter Try.func47, Try.ntmps47
      go_wp2_with fail
      refine Go.Rg.region (Below w.heap.size w) (fun x y => Below x.heap.size x y) (fun x => Below.refl _ x) (fun x y z => below_steps) [.s, .s, .s, .s, .s, .s, .w, .r, .s, .s, .s, .s] (by kernel_rfl) (by kernel_rfl) (below_drew1 (Below.refl _ _)) (fun ne => ?_)
      refine Go.Rg.lex_q 6 _ _ _ _ _ (by rfl) ?_; simp only [List.take_succ_cons, List.take_zero, List.drop_succ_cons, List.drop_zero]; (repeat (go_big_quiet_step (rfl))); refine wpQuiet_nil ?_
      refine Go.Rg.step_w (by rfl) (fun K' hK => ?_)
      go_wp2_with fail
      have HB1 := Aside0.mk (below_drew1 (Below.refl w.heap.size w))
      have hs := chantryref02_Seal.calls (0 + 11 * (l.take n).length + 1) (some a) c (l.take n) (sealB (l.take n)) _ (by rw [HTL.out]; exact HCT.out _ HB1.out) (by rw [HTL.out]; omega) (xseal_plain 0 _ HTB.out (by rw [HTL.out]; omega))
      rw [HTL.out] at hs
      refine hs.mono ?_
      clear hs
      rintro e w2 ⟨v2, rfl, hr2, b2⟩
      obtain ⟨A2, c2, rfl⟩ := Kd.R_slice hr2
      have HR2 := Aside0.mk hr2
      have HB2 := Aside0.mk (below_steps HB1.out b2)
      have HS2 := Aside0.mk b2
      clear hr2 b2
      rw [HSL.out] at HR2 ⊢
      go_wp2_with fail
      refine hK.out _ _ HB2.out HS2.out ?_
      clear hK K'
      try simp only [Act.put, List.setIfInBounds_toArray, List.set_cons_succ, List.set_cons_zero]
      refine Go.Rg.lex_rm 1 _ _ _ _ _ (by rfl) ?_; simp only [List.take_succ_cons, List.take_zero, List.drop_succ_cons, List.drop_zero]
      have hst : ∀ m : Go.Reg.In (fun y => Below w.heap.size w y ∧ Below w2.heap.size w2 y), (convert 22 9 (.slice A2 (n + 4) c2)).run Try.prog m.w = .ok (.string T) m.w := fun m => by rw [HT.out]; exact str8 HR2.out _ m.h.2
      (repeat (go_big_quiet_step (rfl))); refine wpQuiet_nil ?_
      refine Go.Rg.lex_q 4 _ _ _ _ _ (by rfl) ?_; simp only [List.take_succ_cons, List.take_zero, List.drop_succ_cons, List.drop_zero]; (repeat (go_big_quiet_step (rfl))); refine wpQuiet_nil ?_
      refine Go.Rg.lex_nil ?_
      clear hst hsu
      go_wp2_with fail
      go_ret2
      first
        | exact ⟨none, 0, by rw [HQ.out]; rfl, by rw [HQ.out]; exact Nat.le_refl _, fun x hx => by rw [HQ.out]; exact HNIL.out x, HB2.out⟩
        | exact ⟨some a, c, by rw [HQ.out]; show _ = Ending.returned (.tuple #[.slice (some a) (l.take n).length c, .int .i64 0]); rw [HTL.out]; rfl, by rw [HQ.out]; show (l.take n).length ≤ c; rw [HTL.out]; omega, fun x hx => by rw [HQ.out]; show Kd.C _ x (some a) (l.take n).length (l.take n); rw [HTL.out]; exact HCT.out x hx, HB2.out⟩
end Cell
end Go.Proofs.Ytkfbegmfepehiaa
