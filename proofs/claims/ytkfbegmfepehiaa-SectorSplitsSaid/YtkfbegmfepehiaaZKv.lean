import Derived.Test.YtkfbegmfepehiaaZKu
import Derived.Test.YtkfbegmfepehiaaZRg
import Derived.Below
import Derived.Lib.Hide
import Derived.OwnWalk
import Derived.WalkKit
import Derived.KernelRfl
import Derived.RowKit3
import Derived.Deep.LoopGhost
import Derived.Deep.QuietTactic
import Derived.BigQuiet
import Derived.WideLaws
import Derived.Great.BuildSlice
import Derived.Outline
import Derived.Deep.DeepCutAuto
import Derived.WalkSpells
import Derived.RegionTactic
import Derived.BigRegion
import Derived.WalkLawsBesides
import Derived.IntWalk
import Derived.Deep.Slices
import Derived.Lib.AppendZerosOnto
namespace Go.Proofs.Ytkfbegmfepehiaa
set_option linter.unusedVariables false
set_option linter.unusedSimpArgs false
open Go.RowKit Go.Proofs.YtkfbegmfepehiaaW.PrintWords Go.Proofs.YtkfbegmfepehiaaW.PrintLast Go.Proofs.YtkfbegmfepehiaaW.PrintMore
namespace Cell
open Go.Num Go.Crc PCellGets
theorem mid_C {w : World} {a : Addr} {l : List Int} (h : Kd.C (Kd.int .u8) w (some a) l.length l) (i m : Nat) (hi : i + m ≤ l.length) : Kd.C (Kd.int .u8) w (some (a.add i)) m ((l.drop i).take m) := by
  have hle : l.length ≤ 9223372036854775807 := h.2.1
  refine Kd.C_of_reads (enc := fun x => Value.int .u8 x) (d := (0:Int)) (h1 := fun _ => rfl) ⟨by rw [List.length_take, List.length_drop]; omega, by omega, fun _ => ⟨_, rfl, fun j hj => ?_⟩⟩
  obtain ⟨ad, e, hcell⟩ := Kd.at_int h ((i + j : Nat) : Int) (by omega) (by omega)
  cases e
  rw [Int.toNat_natCast] at hcell
  rw [Go.Deep.add_add, hcell]
  unfold rd
  rw [Int.toNat_natCast, List.getD_eq_getElem?_getD, List.getD_eq_getElem?_getD, List.getElem?_take_of_lt (by omega), List.getElem?_drop]
theorem take_C {w : World} {A : Option Addr} {l : List Int} (h : Kd.C (Kd.int .u8) w A l.length l) (m : Nat) (hm : m ≤ l.length) : Kd.C (Kd.int .u8) w A m (l.take m) := by
  obtain ⟨h0, h1, h2⟩ := h
  refine ⟨by rw [List.length_take]; omega, by omega, fun hp => ?_⟩
  obtain ⟨ad, ha, hc⟩ := h2 (by omega)
  refine ⟨ad, ha, fun j p hj => hc j p ?_⟩
  rw [List.getElem?_take] at hj
  split at hj
  · exact hj
  · cases hj
theorem drop_C {w : World} {a : Addr} {l : List Int} (h : Kd.C (Kd.int .u8) w (some a) l.length l) (i : Nat) (hi : i ≤ l.length) : Kd.C (Kd.int .u8) w (some (a.add i)) (l.length - i) (l.drop i) := by
  have := mid_C h i (l.length - i) (by omega)
  rw [List.take_of_length_le (by rw [List.length_drop]; omega)] at this
  exact this
theorem low_bits (s : Int) (h0 : 0 ≤ s) (h1 : s < 4294967296) : Go.bits .and .u32 s 65535 = s % 65536 := by
  obtain ⟨n, rfl⟩ := Int.eq_ofNat_of_zero_le h0
  rw [bits_and32, BitVec.toNat_and, b32_nat n (by omega)]
  show ((n &&& 65535 : Nat) : Int) = _
  rw [show (65535 : Nat) = 2 ^ 16 - 1 from rfl, Nat.and_two_pow_sub_one_eq_mod]
  omega
theorem leB_halves (s : Int) (h0 : 0 ≤ s) : leB (s % 65536) 2 ++ leB (s / 65536) 2 = leB s 4 := by
  rw [leB2_eq, leB2_eq, leB4_eq]
  simp only [List.cons_append, List.nil_append, List.cons.injEq, and_true]
  exact ⟨by omega, by omega, trivial, by omega⟩
theorem fix_small2 (n : Int) (h0 : 0 ≤ n) (h1 : n < 65536) : fixP n 2 = (leB n 2, 0) := by
  unfold fixP
  rw [if_neg (by rw [show (256 : Int) ^ ((2 : Int)).toNat = 65536 from by decide]; omega)]
  rfl
set_option maxHeartbeats 8000000 in
set_option maxRecDepth 100000 in
theorem tail_any (s : Int) (w : World) (h0 : 0 ≤ s) (h1 : s < 4294967296) :
    Calls Try.prog 60 #[.int .u32 s] w fun e w' => ∃ v, e = .returned v ∧ Kd.R (Kd.int .u8) 5 w' w.heap.size (fun _ => True) v (leB s 4) ∧ Below w.heap.size w w' := by
  have HLO := Aside0.mk (low_bits s h0 h1)
  have HH := Aside0.mk (leB_halves s h0)
  go_enter Try.func60, Try.ntmps60
  go_wp2_with fail
  rw [HLO.out, wid (s % 65536) (by omega) (by omega)]
  have hf1 := fix2_any (s % 65536) w (by omega)
  rw [fix_small2 (s % 65536) (by omega) (by omega)] at hf1
  refine hf1.mono ?_
  clear hf1
  rintro e w1 ⟨v1, rfl, hr1, b1⟩
  obtain ⟨A1, c1, rfl⟩ := Kd.R_slice hr1
  have HR1 := Aside0.mk hr1
  have HB1 := Aside0.mk b1
  rw [leB_len] at hr1 ⊢
  clear hr1 b1
  go_wp2_with fail
  try rw [wid (s / 65536) (by omega) (by omega)]
  have hf2 := fix2_any (s / 65536) w1 (by omega)
  rw [fix_small2 (s / 65536) (by omega) (by omega)] at hf2
  refine hf2.mono ?_
  clear hf2
  rintro e w2 ⟨v2, rfl, hr2, b2⟩
  obtain ⟨A2, c2, rfl⟩ := Kd.R_slice hr2
  have HC1 := Aside0.mk (Kd.C_below (row_at HR1.out) b2)
  have HC2 := Aside0.mk (row_at hr2)
  have HB2 := Aside0.mk (HB1.out.trans (b2.mono HB1.out.size))
  rw [leB_len]
  clear hr2 b2 HR1 HB1
  go_wp2_with fail
  obtain ⟨w3, hw3⟩ : ∃ w3, w3 = w2.alloc (.cells #[.slice A1 2 c1, .slice A2 2 c2] 22) := ⟨_, rfl⟩
  have hb3 : Below w2.heap.size w2 w3 := by rw [hw3]; exact (Below.refl _ _).alloc (Nat.le_refl _) _
  have hc3 : w3.heap[w2.heap.size]? = some (.cells #[.slice A1 2 c1, .slice A2 2 c2] 22 (0, 0)) := by rw [hw3]; exact heap_alloc_new w2 _
  rw [← hw3]
  have hcc := concat_any (w := w3) w2.heap.size A1 A2 c1 c2 (leB (s % 65536) 2) (leB (s / 65536) 2) (blk_lt hc3) (by rw [leB_len]; exact cell_blk hc3) (by rw [leB_len]; exact cell_blk hc3) (Kd.C_below HC1.out hb3) (Kd.C_below HC2.out hb3) (by rw [leB_len]; omega) (by rw [leB_len, leB_len]; omega)
  rw [HH.out] at hcc
  have HB3 := Aside0.mk (HB2.out.trans (hb3.mono HB2.out.size))
  clear hw3 hb3 hc3 HC1 HC2 HB2
  refine hcc.mono ?_
  clear hcc
  rintro e w4 ⟨v4, rfl, hr4, b4⟩
  have HR4 := Aside0.mk (Kd.R_lower hr4 HB3.out.size)
  have HB4 := Aside0.mk (HB3.out.trans (b4.mono HB3.out.size))
  clear hr4 b4
  go_wp2_with fail
  go_ret
  exact ⟨_, rfl, HR4.out, HB4.out⟩
set_option maxHeartbeats 8000000 in
set_option maxRecDepth 100000 in
theorem seal_any (A : Option Addr) (c : Nat) (l : List Int) (w : World) (hC : Kd.C (Kd.int .u8) w A l.length l) (hb : ∀ x ∈ l, 0 ≤ x ∧ x ≤ 255) (hl : l.length ≤ 900000) :
    Calls Try.prog 36 #[.slice A l.length c] w fun e w' => ∃ v, e = .returned v ∧ Kd.R (Kd.int .u8) 5 w' w.heap.size (fun _ => True) v (sealB l) ∧ Below w.heap.size w w' := by
  have HC := Aside0.mk hC
  have HBY := Aside0.mk hb
  have hr := sum_range l
  clear hC hb
  go_enter Try.func36, Try.ntmps36
  go_wp2_with fail
  refine (sum_any A c l w HC.out HBY.out (by omega)).mono ?_
  rintro e w1 ⟨rfl, rfl⟩
  go_wp2_with fail
  refine (tail_any (Crc.sum l) w1 hr.1 hr.2).mono ?_
  rintro e w2 ⟨v2, rfl, hr2, b2⟩
  obtain ⟨A2, c2, rfl⟩ := Kd.R_slice hr2
  have HC1 := Aside0.mk (Kd.C_below HC.out b2)
  have HC2 := Aside0.mk (row_at hr2)
  have HB2 := Aside0.mk b2
  rw [leB_len]
  clear hr2 b2 hr
  go_wp2_with fail
  obtain ⟨w3, hw3⟩ : ∃ w3, w3 = w2.alloc (.cells #[.slice A l.length c, .slice A2 4 c2] 22) := ⟨_, rfl⟩
  have hb3 : Below w2.heap.size w2 w3 := by rw [hw3]; exact (Below.refl _ _).alloc (Nat.le_refl _) _
  have hc3 : w3.heap[w2.heap.size]? = some (.cells #[.slice A l.length c, .slice A2 4 c2] 22 (0, 0)) := by rw [hw3]; exact heap_alloc_new w2 _
  rw [← hw3]
  have hcc := concat_any (w := w3) w2.heap.size A A2 c c2 l (leB (Crc.sum l) 4) (blk_lt hc3) (cell_blk hc3) (by rw [leB_len]; exact cell_blk hc3) (Kd.C_below HC1.out hb3) (Kd.C_below HC2.out hb3) (by rw [leB_len]; omega) (by rw [leB_len]; omega)
  have HB3 := Aside0.mk (HB2.out.trans (hb3.mono HB2.out.size))
  clear hw3 hb3 hc3 HC1 HC2 HB2
  refine hcc.mono ?_
  clear hcc
  rintro e w4 ⟨v4, rfl, hr4, b4⟩
  have HR4 := Aside0.mk (show Kd.R (Kd.int .u8) 5 w4 w1.heap.size (fun _ => True) v4 (sealB l) from Kd.R_lower hr4 HB3.out.size)
  have HB4 := Aside0.mk (HB3.out.trans (b4.mono HB3.out.size))
  clear hr4 b4
  go_wp2_with fail
  go_ret
  exact ⟨_, rfl, HR4.out, HB4.out⟩
def openP (l : List Int) : List Int × Int := if l.length < 4 ∨ l.drop (l.length - 4) ≠ leB (Crc.sum (l.take (l.length - 4))) 4 then ([], 12) else (l.take (l.length - 4), 0)
theorem eqN (a : Addr) (n c : Nat) (W : World) : (binOp BinOp.eql 22 (.slice (some a) n c) (.slice none 0 0)).run Try.prog W = .ok (.bool false) W := by
  kernel_rfl
set_option maxHeartbeats 8000000 in
set_option maxRecDepth 100000 in
theorem clone8 {w : World} (a : Addr) (c : Nat) (xs : List Int) (hC : Kd.C (Kd.int .u8) w (some a) xs.length xs) (hl : xs.length ≤ 262144) :
    Calls Try.prog 56 #[.slice (some a) xs.length c] w fun e w' => ∃ v, e = .returned v ∧ Kd.R (Kd.int .u8) 5 w' w.heap.size (fun _ => True) v xs ∧ Below w.heap.size w w' ∧ v ≠ .slice none 0 0 := by
  have HC := Aside0.mk hC
  clear hC
  have heq := eqN a xs.length c
  go_enter Try.func56, Try.ntmps56
  go_wp2_with ((with_reducible refine gate_builtin (b := .append) (xs := #[.tmp 5, .tmp 6]) rfl ?_); at_builtin; refine Hid.out ?_)
  refine Lib.hid ?_
  have HAL := Aside0.mk ((Below.refl w.heap.size w).alloc (Nat.le_refl _) (.cells #[] 5))
  refine Kd.R_append_rows (Kd.int .u8) (Rr := (Kd.int .u8).K (w.alloc (.cells #[] 5))) (w0 := w) w.heap.size rfl (.tmp 5) (.tmp 6) 22 5 (.int .u8 0) 1 rfl Try.underlying22 infoU8 rfl (by decide) (by omega) (.slice (some ⟨w.heap.size, 0, none⟩) 0 0) [] xs (some a) xs.length c (fun _ => True) (fun _ => False) rfl rfl ?aO ?aR (fun x cs h => h) (fun _ hk => hk.elim) (fun _ _ => trivial) HAL.out ?aS ?aL ?_
  case aO => exact ⟨fun _ _ => trivial, OwnRow.lit w w.heap.size (Reps.none _ _) (Nat.le_refl _) (by simp)⟩
  case aR => exact Kd.C_below HC.out HAL.out
  case aS => simp
  case aL => simp; omega
  intro v1 w1 ho hb hg hat
  have HO := Aside0.mk ho
  have HB := Aside0.mk hb
  have HAT := Aside0.mk hat
  clear ho hb hg hat
  go_wp2_with fail
  go_ret
  refine ⟨v1, rfl, by simpa using HO.out, HB.out, fun e => ?_⟩
  rcases HAT.out with h | ⟨b, h, _⟩
  · rw [e] at h; simp [Value.ownBlock] at h
  · rw [e] at h; simp [Value.ownBlock] at h
set_option maxHeartbeats 8000000 in
set_option maxRecDepth 100000 in
theorem open_any (A : Option Addr) (c : Nat) (l : List Int) (w : World) (hC : Kd.C (Kd.int .u8) w A l.length l) (hb : ∀ x ∈ l, 0 ≤ x ∧ x ≤ 255) (hl : l.length ≤ 200000) (hc : l.length ≤ c) :
    Calls Try.prog 40 #[.slice A l.length c] w fun e w' => ∃ v, e = .returned (.tuple #[v, .int .i64 (openP l).2]) ∧ Kd.R (Kd.int .u8) 5 w' w.heap.size (fun _ => True) v (openP l).1 ∧ Below w.heap.size w w' := by
  have HC := Aside0.mk hC
  have HBY := Aside0.mk hb
  clear hC hb
  by_cases h4 : l.length < 4
  · have ho : openP l = ([], 12) := by unfold openP; rw [if_pos (.inl h4)]
    rw [ho]
    clear ho
    have hneg : (l.length : Int) - 4 < 0 := by omega
    go_enter Try.func40, Try.ntmps40
    go_wp2_with fail
    refine Go.Rg.region (Below w.heap.size w) (fun x y => Below x.heap.size x y) (fun x => Below.refl _ x) (fun x y z h k => h.trans (k.mono h.size)) [.s, .s, .s, .s, .s, .s, .s, .s, .s, .v, .v, .v, .s, .s] (by kernel_rfl) (by kernel_rfl) (below_drew1 (Below.refl _ _)) (fun ne => ?_)
    refine Go.Rg.lex_q 9 _ _ _ _ _ (by rfl) ?_; simp only [List.take_succ_cons, List.take_zero, List.drop_succ_cons, List.drop_zero]; (repeat (go_big_quiet_step (rfl))); refine wpQuiet_nil ?_
    refine Go.Rg.step_v (fun K' hK => ?_)
    go_wp2_with fail
    refine hK.out _ _ (below_drew1 (Below.refl _ _)) (Below.refl _ _) ?_
    clear hK K'
    try simp only [Act.put, List.setIfInBounds_toArray, List.set_cons_succ, List.set_cons_zero]
    refine Go.Rg.step_v (fun K' hK => ?_)
    go_wp2_with fail
    refine hK.out _ _ (below_drew1 (Below.refl _ _)) (Below.refl _ _) ?_
    clear hK K'
    try simp only [Act.put, List.setIfInBounds_toArray, List.set_cons_succ, List.set_cons_zero]
    refine Go.Rg.step_v (fun K' hK => ?_)
    go_wp2_with fail
    refine hK.out _ _ (below_drew1 (Below.refl _ _)) (Below.refl _ _) ?_
    clear hK K'
    try simp only [Act.put, List.setIfInBounds_toArray, List.set_cons_succ, List.set_cons_zero]
    refine Go.Rg.lex_q 2 _ _ _ _ _ (by rfl) ?_; simp only [List.take_succ_cons, List.take_zero, List.drop_succ_cons, List.drop_zero]; (repeat (go_big_quiet_step (rfl))); refine wpQuiet_nil ?_
    refine Go.Rg.lex_nil ?_
    go_wp2_with fail
    go_ret2
    exact ⟨_, rfl, Kd.R_nil _ _ _ _ _, below_drew1 (Below.refl _ _)⟩
  · obtain ⟨a, rfl⟩ : ∃ a, A = some a := by obtain ⟨a, ha, _⟩ := HC.out.2.2 (by omega); exact ⟨a, ha⟩
    obtain ⟨n, hn⟩ : ∃ n : Nat, l.length = n + 4 := ⟨l.length - 4, by omega⟩
    have ho : openP l = if l.drop n ≠ leB (Crc.sum (l.take n)) 4 then ([], 12) else (l.take n, 0) := by
      unfold openP
      rw [show l.length - 4 = n by omega]
      by_cases hd : l.drop n ≠ leB (Crc.sum (l.take n)) 4
      · rw [if_pos (.inr hd), if_pos hd]
      · rw [if_neg (by intro h; rcases h with h | h; omega; exact hd h), if_neg hd]
    obtain ⟨R, hR⟩ : ∃ R, R = openP l := ⟨_, rfl⟩
    rw [← hR]
    have HRR := Aside0.mk (hR.trans ho)
    clear hR
    have HCD := Aside0.mk (show ∀ x, Below w.heap.size w x → Kd.C (Kd.int .u8) x (some (a.add n)) 4 (l.drop n) from fun x hx => by
      have := drop_C (Kd.C_below HC.out hx) n (by omega)
      rw [show l.length - n = 4 by omega] at this
      exact this)
    have HCT := Aside0.mk (show ∀ x, Below w.heap.size w x → Kd.C (Kd.int .u8) x (some a) n (l.take n) from fun x hx => take_C (Kd.C_below HC.out hx) n (by omega))
    have HTB := Aside0.mk (show ∀ x ∈ l.take n, 0 ≤ x ∧ x ≤ 255 from fun x hx => HBY.out x (List.mem_of_mem_take hx))
    have HDL := Aside0.mk (show (l.drop n).length = 4 by rw [List.length_drop]; omega)
    have HTL := Aside0.mk (show (l.take n).length = n by rw [List.length_take]; omega)
    rw [hn] at hl hc ⊢
    clear ho h4 hn
    obtain ⟨b, hbb⟩ : ∃ b : Bool, b = decide (l.drop n = leB (Crc.sum (l.take n)) 4) := ⟨_, rfl⟩
    have HBB := Aside0.mk hbb
    clear hbb
    have q1 : ((n + 4 : Nat) : Int) - 4 = n := by omega
    have q2 : decide ((n : Int) < 0) = false := decide_eq_false (by omega)
    have q3 : (n : Int) ≤ (n : Int) + 4 := by omega
    have q4 : (n : Int) + 4 ≤ c := by omega
    have q5 : (n : Int) ≤ c := by omega
    go_enter Try.func40, Try.ntmps40
    go_wp2_with fail
    refine Go.Rg.region (Below w.heap.size w) (fun x y => Below x.heap.size x y) (fun x => Below.refl _ x) (fun x y z h k => h.trans (k.mono h.size)) [.s, .s, .s, .s, .s, .s, .s, .s, .s, .w, .w, .w, .s, .s] (by kernel_rfl) (by kernel_rfl) (below_drew1 (Below.refl _ _)) (fun ne => ?_)
    refine Go.Rg.lex_q 9 _ _ _ _ _ (by rfl) ?_; simp only [List.take_succ_cons, List.take_zero, List.drop_succ_cons, List.drop_zero]; (repeat (go_big_quiet_step (rfl))); refine wpQuiet_nil ?_
    refine Go.Rg.step_w (by rfl) (fun K' hK => ?_)
    go_wp2_with fail
    have HB1 := Aside0.mk (below_drew1 (Below.refl w.heap.size w))
    have hs := sum_any (some a) c (l.take n) _ (by rw [HTL.out]; exact HCT.out _ HB1.out) HTB.out (by rw [HTL.out]; omega)
    rw [HTL.out] at hs
    refine hs.mono ?_
    clear hs
    rintro e w1 ⟨rfl, hw1⟩
    rw [← hw1] at HB1
    have HW1 := Aside0.mk hw1
    clear hw1
    go_wp2_with fail
    refine hK.out _ _ HB1.out (by rw [HW1.out]; exact Below.refl _ _) ?_
    clear hK K'
    try simp only [Act.put, List.setIfInBounds_toArray, List.set_cons_succ, List.set_cons_zero]
    refine Go.Rg.step_w (by rfl) (fun K' hK => ?_)
    go_wp2_with fail
    refine (tail_any (Crc.sum (l.take n)) w1 (sum_range _).1 (sum_range _).2).mono ?_
    rintro e w2 ⟨v2, rfl, hr2, b2⟩
    obtain ⟨A2, c2, rfl⟩ := Kd.R_slice hr2
    have HR2 := Aside0.mk hr2
    have HB2 := Aside0.mk (HB1.out.trans (b2.mono HB1.out.size))
    have HS2 := Aside0.mk b2
    have hc2 := (Kd.R_reads' hr2).2.1
    clear hr2 b2
    rw [leB_len] at hc2 ⊢
    go_wp2_with fail
    refine hK.out _ _ HB2.out HS2.out ?_
    clear hK K'
    try simp only [Act.put, List.setIfInBounds_toArray, List.set_cons_succ, List.set_cons_zero]
    refine Go.Rg.step_w (by rfl) (fun K' hK => ?_)
    go_wp2_with fail
    have heq := slices_Equal_byte_byte.calls (4 + (l.drop n).length + 1) (some (a.add n)) (c - n) (l.drop n) A2 c2 (leB (Crc.sum (l.take n)) 4) b w2 (by rw [HDL.out]; exact HCD.out _ HB2.out) (by rw [HDL.out]; omega) (row_at HR2.out) (by rw [leB_len]; exact hc2) (by rw [equal_plain _ _ 4 (by rw [HDL.out]; omega), HBB.out])
    rw [HDL.out, leB_len] at heq
    refine heq.mono ?_
    clear heq
    rintro e w3 ⟨rfl, hd3⟩
    have HB3 := Aside0.mk (HB2.out.trans (hd3.below.mono HB2.out.size))
    have HS3 := Aside0.mk hd3.below
    clear hd3
    go_wp2_with fail
    refine hK.out _ _ HB3.out HS3.out ?_
    clear hK K'
    try simp only [Act.put, List.setIfInBounds_toArray, List.set_cons_succ, List.set_cons_zero]
    refine Go.Rg.lex_q 2 _ _ _ _ _ (by rfl) ?_; simp only [List.take_succ_cons, List.take_zero, List.drop_succ_cons, List.drop_zero]; (repeat (go_big_quiet_step (rfl))); refine wpQuiet_nil ?_
    refine Go.Rg.lex_nil ?_
    cases b with
    | false =>
      go_wp2_with fail
      have hq : R = ([], 12) := by rw [HRR.out, if_pos (of_decide_eq_false HBB.out.symm)]
      go_ret2
      exact ⟨_, by rw [hq]; rfl, by rw [hq]; exact Kd.R_nil _ _ _ _ _, HB3.out⟩
    | true =>
      go_wp2_with fail
      have hcl := clone8 a c (l.take n) (by rw [HTL.out]; exact HCT.out _ HB3.out) (by rw [HTL.out]; omega)
      rw [HTL.out] at hcl
      refine hcl.mono ?_
      clear hcl
      rintro e w4 ⟨v4, rfl, hr4, b4, _⟩
      have HR4 := Aside0.mk (Kd.R_lower hr4 HB3.out.size)
      have HB4 := Aside0.mk (HB3.out.trans (b4.mono HB3.out.size))
      clear hr4 b4
      go_wp2_with fail
      have hq : R = (l.take n, 0) := by rw [HRR.out, if_neg (fun h => h (of_decide_eq_true HBB.out.symm))]
      go_ret2
      exact ⟨_, by rw [hq]; rfl, by rw [hq]; exact HR4.out, HB4.out⟩
end Cell
end Go.Proofs.Ytkfbegmfepehiaa
