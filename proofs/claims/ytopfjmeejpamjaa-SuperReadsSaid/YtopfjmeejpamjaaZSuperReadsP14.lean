/- Part 15 of the proof of SuperReads: lemmas alone. -/
import Derived.Test.YtopfjmeejpamjaaZSuperReadsP12
import Derived.Test.YtopfjmeejpamjaaZSuperReadsP2
import Derived.Below
import Derived.Lib.Hide
import Derived.OwnWalk
import Derived.WalkKit
import Derived.KernelRfl
import Derived.RowKit3
import Derived.Deep.LoopGhost
import Derived.Deep.QuietTactic
import Derived.BigQuiet
import Derived.WideLaws
import Derived.Great.BuildSlice
import Derived.Outline
import Derived.Deep.DeepCutAuto
import Derived.WalkSpells
import Derived.RegionTactic
import Derived.BigRegion
import Derived.WalkLawsBesides
import Derived.IntWalk
import Derived.Deep.Slices
import Derived.Lib.AppendZerosOnto
import Derived.Test.YtopfjmeejpamjaaZSuperReadsP5
import Derived.Test.YtopfjmeejpamjaaZSuperReadsP6
section
namespace Go.Proofs.Ytopfjmeejpamjaa
set_option linter.unusedVariables false
set_option linter.unusedSimpArgs false
open Go.RowKit Go.Proofs.YtopfjmeejpamjaaW.PrintWords Go.Proofs.YtopfjmeejpamjaaW.PrintLast Go.Proofs.YtopfjmeejpamjaaW.PrintMore
namespace Cell
open Go.Num Go.Crc PCellGets
theorem mid_C {w : World} {a : Addr} {l : List Int} (h : Kd.C (Kd.int .u8) w (some a) l.length l) (i m : Nat) (hi : i + m ≤ l.length) : Kd.C (Kd.int .u8) w (some (a.add i)) m ((l.drop i).take m) := by
  have hle : l.length ≤ 9223372036854775807 := h.2.1
  refine Kd.C_of_reads (enc := fun x => Value.int .u8 x) (d := (0:Int)) (h1 := fun _ => rfl) ⟨by rw [List.length_take, List.length_drop]; omega, by omega, fun _ => ⟨_, rfl, fun j hj => ?_⟩⟩
  obtain ⟨ad, e, hcell⟩ := Kd.at_int h ((i + j : Nat) : Int) (by omega) (by omega)
  cases e
  rw [Int.toNat_natCast] at hcell
  rw [Go.Deep.add_add, hcell]
  unfold rd
  rw [Int.toNat_natCast, List.getD_eq_getElem?_getD, List.getD_eq_getElem?_getD, List.getElem?_take_of_lt (by omega), List.getElem?_drop]
theorem take_C {w : World} {A : Option Addr} {l : List Int} (h : Kd.C (Kd.int .u8) w A l.length l) (m : Nat) (hm : m ≤ l.length) : Kd.C (Kd.int .u8) w A m (l.take m) := by
  obtain ⟨h0, h1, h2⟩ := h
  refine ⟨by rw [List.length_take]; omega, by omega, fun hp => ?_⟩
  obtain ⟨ad, ha, hc⟩ := h2 (by omega)
  refine ⟨ad, ha, fun j p hj => hc j p ?_⟩
  rw [List.getElem?_take] at hj
  split at hj
  · exact hj
  · cases hj
theorem drop_C {w : World} {a : Addr} {l : List Int} (h : Kd.C (Kd.int .u8) w (some a) l.length l) (i : Nat) (hi : i ≤ l.length) : Kd.C (Kd.int .u8) w (some (a.add i)) (l.length - i) (l.drop i) := by
  have := mid_C h i (l.length - i) (by omega)
  rw [List.take_of_length_le (by rw [List.length_drop]; omega)] at this
  exact this
theorem low_bits (s : Int) (h0 : 0 ≤ s) (h1 : s < 4294967296) : Go.bits .and .u32 s 65535 = s % 65536 := by
  obtain ⟨n, rfl⟩ := Int.eq_ofNat_of_zero_le h0
  rw [bits_and32, BitVec.toNat_and, b32_nat n (by omega)]
  show ((n &&& 65535 : Nat) : Int) = _
  rw [show (65535 : Nat) = 2 ^ 16 - 1 from rfl, Nat.and_two_pow_sub_one_eq_mod]
  omega
theorem leB_halves (s : Int) (h0 : 0 ≤ s) : leB (s % 65536) 2 ++ leB (s / 65536) 2 = leB s 4 := by
  rw [leB2_eq, leB2_eq, leB4_eq]
  simp only [List.cons_append, List.nil_append, List.cons.injEq, and_true]
  exact ⟨by omega, by omega, trivial, by omega⟩
theorem fix_small2 (n : Int) (h0 : 0 ≤ n) (h1 : n < 65536) : fixP n 2 = (leB n 2, 0) := by
  unfold fixP
  rw [if_neg (by rw [show (256 : Int) ^ ((2 : Int)).toNat = 65536 from by decide]; omega)]
  rfl
set_option maxHeartbeats 8000000 in
set_option maxRecDepth 100000 in
theorem tail_any (s : Int) (w : World) (h0 : 0 ≤ s) (h1 : s < 4294967296) :
    Calls Try.prog 89 #[.int .u32 s] w fun e w' => ∃ v, e = .returned v ∧ Kd.R (Kd.int .u8) 5 w' w.heap.size (fun _ => True) v (leB s 4) ∧ Below w.heap.size w w' := by
  have HLO := Aside0.mk (low_bits s h0 h1)
  have HH := Aside0.mk (leB_halves s h0)
  go_enter Try.func89, Try.ntmps89
  go_wp2_with fail
  rw [HLO.out, wid (s % 65536) (by omega) (by omega)]
  have hf1 := fix2_any (s % 65536) w (by omega)
  rw [fix_small2 (s % 65536) (by omega) (by omega)] at hf1
  refine hf1.mono ?_
  clear hf1
  rintro e w1 ⟨v1, rfl, hr1, b1⟩
  obtain ⟨A1, c1, rfl⟩ := Kd.R_slice hr1
  have HR1 := Aside0.mk hr1
  have HB1 := Aside0.mk b1
  rw [leB_len] at hr1 ⊢
  clear hr1 b1
  go_wp2_with fail
  try rw [wid (s / 65536) (by omega) (by omega)]
  have hf2 := fix2_any (s / 65536) w1 (by omega)
  rw [fix_small2 (s / 65536) (by omega) (by omega)] at hf2
  refine hf2.mono ?_
  clear hf2
  rintro e w2 ⟨v2, rfl, hr2, b2⟩
  obtain ⟨A2, c2, rfl⟩ := Kd.R_slice hr2
  have HC1 := Aside0.mk (Kd.C_below (row_at HR1.out) b2)
  have HC2 := Aside0.mk (row_at hr2)
  have HB2 := Aside0.mk (HB1.out.trans (b2.mono HB1.out.size))
  rw [leB_len]
  clear hr2 b2 HR1 HB1
  go_wp2_with fail
  obtain ⟨w3, hw3⟩ : ∃ w3, w3 = w2.alloc (.cells #[.slice A1 2 c1, .slice A2 2 c2] 26) := ⟨_, rfl⟩
  have hb3 : Below w2.heap.size w2 w3 := by rw [hw3]; exact (Below.refl _ _).alloc (Nat.le_refl _) _
  have hc3 : w3.heap[w2.heap.size]? = some (.cells #[.slice A1 2 c1, .slice A2 2 c2] 26 (0, 0)) := by rw [hw3]; exact heap_alloc_new w2 _
  rw [← hw3]
  have hcc := concat_any (w := w3) w2.heap.size A1 A2 c1 c2 (leB (s % 65536) 2) (leB (s / 65536) 2) (blk_lt hc3) (by rw [leB_len]; exact cell_blk hc3) (by rw [leB_len]; exact cell_blk hc3) (Kd.C_below HC1.out hb3) (Kd.C_below HC2.out hb3) (by rw [leB_len]; omega) (by rw [leB_len, leB_len]; omega)
  rw [HH.out] at hcc
  have HB3 := Aside0.mk (HB2.out.trans (hb3.mono HB2.out.size))
  clear hw3 hb3 hc3 HC1 HC2 HB2
  refine hcc.mono ?_
  clear hcc
  rintro e w4 ⟨v4, rfl, hr4, b4⟩
  have HR4 := Aside0.mk (Kd.R_lower hr4 HB3.out.size)
  have HB4 := Aside0.mk (HB3.out.trans (b4.mono HB3.out.size))
  clear hr4 b4
  go_wp2_with fail
  go_ret
  exact ⟨_, rfl, HR4.out, HB4.out⟩
set_option maxHeartbeats 8000000 in
set_option maxRecDepth 100000 in
theorem seal_any (A : Option Addr) (c : Nat) (l : List Int) (w : World) (hC : Kd.C (Kd.int .u8) w A l.length l) (hb : ∀ x ∈ l, 0 ≤ x ∧ x ≤ 255) (hl : l.length ≤ 900000) :
    Calls Try.prog 69 #[.slice A l.length c] w fun e w' => ∃ v, e = .returned v ∧ Kd.R (Kd.int .u8) 5 w' w.heap.size (fun _ => True) v (sealB l) ∧ Below w.heap.size w w' := by
  have HC := Aside0.mk hC
  have HBY := Aside0.mk hb
  have hr := sum_range l
  clear hC hb
  go_enter Try.func69, Try.ntmps69
  go_wp2_with fail
  refine (sum_any A c l w HC.out HBY.out (by omega)).mono ?_
  rintro e w1 ⟨rfl, rfl⟩
  go_wp2_with fail
  refine (tail_any (Crc.sum l) w1 hr.1 hr.2).mono ?_
  rintro e w2 ⟨v2, rfl, hr2, b2⟩
  obtain ⟨A2, c2, rfl⟩ := Kd.R_slice hr2
  have HC1 := Aside0.mk (Kd.C_below HC.out b2)
  have HC2 := Aside0.mk (row_at hr2)
  have HB2 := Aside0.mk b2
  rw [leB_len]
  clear hr2 b2 hr
  go_wp2_with fail
  obtain ⟨w3, hw3⟩ : ∃ w3, w3 = w2.alloc (.cells #[.slice A l.length c, .slice A2 4 c2] 26) := ⟨_, rfl⟩
  have hb3 : Below w2.heap.size w2 w3 := by rw [hw3]; exact (Below.refl _ _).alloc (Nat.le_refl _) _
  have hc3 : w3.heap[w2.heap.size]? = some (.cells #[.slice A l.length c, .slice A2 4 c2] 26 (0, 0)) := by rw [hw3]; exact heap_alloc_new w2 _
  rw [← hw3]
  have hcc := concat_any (w := w3) w2.heap.size A A2 c c2 l (leB (Crc.sum l) 4) (blk_lt hc3) (cell_blk hc3) (by rw [leB_len]; exact cell_blk hc3) (Kd.C_below HC1.out hb3) (Kd.C_below HC2.out hb3) (by rw [leB_len]; omega) (by rw [leB_len]; omega)
  have HB3 := Aside0.mk (HB2.out.trans (hb3.mono HB2.out.size))
  clear hw3 hb3 hc3 HC1 HC2 HB2
  refine hcc.mono ?_
  clear hcc
  rintro e w4 ⟨v4, rfl, hr4, b4⟩
  have HR4 := Aside0.mk (show Kd.R (Kd.int .u8) 5 w4 w1.heap.size (fun _ => True) v4 (sealB l) from Kd.R_lower hr4 HB3.out.size)
  have HB4 := Aside0.mk (HB3.out.trans (b4.mono HB3.out.size))
  clear hr4 b4
  go_wp2_with fail
  go_ret
  exact ⟨_, rfl, HR4.out, HB4.out⟩
def openP (l : List Int) : List Int × Int := if l.length < 4 ∨ l.drop (l.length - 4) ≠ leB (Crc.sum (l.take (l.length - 4))) 4 then ([], 12) else (l.take (l.length - 4), 0)
theorem eqN (a : Addr) (n c : Nat) (W : World) : (binOp BinOp.eql 26 (.slice (some a) n c) (.slice none 0 0)).run Try.prog W = .ok (.bool false) W := by
  kernel_rfl
set_option maxHeartbeats 8000000 in
set_option maxRecDepth 100000 in
theorem clone8 {w : World} (a : Addr) (c : Nat) (xs : List Int) (hC : Kd.C (Kd.int .u8) w (some a) xs.length xs) (hl : xs.length ≤ 262144) :
    Calls Try.prog 51 #[.slice (some a) xs.length c] w fun e w' => ∃ v, e = .returned v ∧ Kd.R (Kd.int .u8) 5 w' w.heap.size (fun _ => True) v xs ∧ Below w.heap.size w w' ∧ v ≠ .slice none 0 0 := by
  have HC := Aside0.mk hC
  clear hC
  have heq := eqN a xs.length c
  go_enter Try.func51, Try.ntmps51
  go_wp2_with ((with_reducible refine gate_builtin (b := .append) (xs := #[.tmp 5, .tmp 6]) rfl ?_); at_builtin; refine Hid.out ?_)
  refine Lib.hid ?_
  have HAL := Aside0.mk ((Below.refl w.heap.size w).alloc (Nat.le_refl _) (.cells #[] 5))
  refine Kd.R_append_rows (Kd.int .u8) (Rr := (Kd.int .u8).K (w.alloc (.cells #[] 5))) (w0 := w) w.heap.size rfl (.tmp 5) (.tmp 6) 26 5 (.int .u8 0) 1 rfl Try.underlying26 infoU8 rfl (by decide) (by omega) (.slice (some ⟨w.heap.size, 0, none⟩) 0 0) [] xs (some a) xs.length c (fun _ => True) (fun _ => False) rfl rfl ?aO ?aR (fun x cs h => h) (fun _ hk => hk.elim) (fun _ _ => trivial) HAL.out ?aS ?aL ?_
  case aO => exact ⟨fun _ _ => trivial, OwnRow.lit w w.heap.size (Reps.none _ _) (Nat.le_refl _) (by simp)⟩
  case aR => exact Kd.C_below HC.out HAL.out
  case aS => simp
  case aL => simp; omega
  intro v1 w1 ho hb hg hat
  have HO := Aside0.mk ho
  have HB := Aside0.mk hb
  have HAT := Aside0.mk hat
  clear ho hb hg hat
  go_wp2_with fail
  go_ret
  refine ⟨v1, rfl, by simpa using HO.out, HB.out, fun e => ?_⟩
  rcases HAT.out with h | ⟨b, h, _⟩
  · rw [e] at h; simp [Value.ownBlock] at h
  · rw [e] at h; simp [Value.ownBlock] at h
set_option maxHeartbeats 8000000 in
set_option maxRecDepth 100000 in
theorem open_any (A : Option Addr) (c : Nat) (l : List Int) (w : World) (hC : Kd.C (Kd.int .u8) w A l.length l) (hb : ∀ x ∈ l, 0 ≤ x ∧ x ≤ 255) (hl : l.length ≤ 200000) (hc : l.length ≤ c) :
    Calls Try.prog 72 #[.slice A l.length c] w fun e w' => ∃ v, e = .returned (.tuple #[v, .int .i64 (openP l).2]) ∧ Kd.R (Kd.int .u8) 5 w' w.heap.size (fun _ => True) v (openP l).1 ∧ Below w.heap.size w w' := by
  have HC := Aside0.mk hC
  have HBY := Aside0.mk hb
  clear hC hb
  by_cases h4 : l.length < 4
  · have ho : openP l = ([], 12) := by unfold openP; rw [if_pos (.inl h4)]
    rw [ho]
    clear ho
    have hneg : (l.length : Int) - 4 < 0 := by omega
    go_enter Try.func72, Try.ntmps72
    go_wp2_with fail
    refine Go.Rg.region (Below w.heap.size w) (fun x y => Below x.heap.size x y) (fun x => Below.refl _ x) (fun x y z h k => h.trans (k.mono h.size)) [.s, .s, .s, .s, .s, .s, .s, .s, .s, .v, .v, .v, .s, .s] (by kernel_rfl) (by kernel_rfl) (below_drew1 (Below.refl _ _)) (fun ne => ?_)
    refine Go.Rg.lex_q 9 _ _ _ _ _ (by rfl) ?_; simp only [List.take_succ_cons, List.take_zero, List.drop_succ_cons, List.drop_zero]; (repeat (go_big_quiet_step (rfl))); refine wpQuiet_nil ?_
    refine Go.Rg.step_v (fun K' hK => ?_)
    go_wp2_with fail
    refine hK.out _ _ (below_drew1 (Below.refl _ _)) (Below.refl _ _) ?_
    clear hK K'
    try simp only [Act.put, List.setIfInBounds_toArray, List.set_cons_succ, List.set_cons_zero]
    refine Go.Rg.step_v (fun K' hK => ?_)
    go_wp2_with fail
    refine hK.out _ _ (below_drew1 (Below.refl _ _)) (Below.refl _ _) ?_
    clear hK K'
    try simp only [Act.put, List.setIfInBounds_toArray, List.set_cons_succ, List.set_cons_zero]
    refine Go.Rg.step_v (fun K' hK => ?_)
    go_wp2_with fail
    refine hK.out _ _ (below_drew1 (Below.refl _ _)) (Below.refl _ _) ?_
    clear hK K'
    try simp only [Act.put, List.setIfInBounds_toArray, List.set_cons_succ, List.set_cons_zero]
    refine Go.Rg.lex_q 2 _ _ _ _ _ (by rfl) ?_; simp only [List.take_succ_cons, List.take_zero, List.drop_succ_cons, List.drop_zero]; (repeat (go_big_quiet_step (rfl))); refine wpQuiet_nil ?_
    refine Go.Rg.lex_nil ?_
    go_wp2_with fail
    go_ret2
    exact ⟨_, rfl, Kd.R_nil _ _ _ _ _, below_drew1 (Below.refl _ _)⟩
  · obtain ⟨a, rfl⟩ : ∃ a, A = some a := by obtain ⟨a, ha, _⟩ := HC.out.2.2 (by omega); exact ⟨a, ha⟩
    obtain ⟨n, hn⟩ : ∃ n : Nat, l.length = n + 4 := ⟨l.length - 4, by omega⟩
    have ho : openP l = if l.drop n ≠ leB (Crc.sum (l.take n)) 4 then ([], 12) else (l.take n, 0) := by
      unfold openP
      rw [show l.length - 4 = n by omega]
      by_cases hd : l.drop n ≠ leB (Crc.sum (l.take n)) 4
      · rw [if_pos (.inr hd), if_pos hd]
      · rw [if_neg (by intro h; rcases h with h | h; omega; exact hd h), if_neg hd]
    obtain ⟨R, hR⟩ : ∃ R, R = openP l := ⟨_, rfl⟩
    rw [← hR]
    have HRR := Aside0.mk (hR.trans ho)
    clear hR
    have HCD := Aside0.mk (show ∀ x, Below w.heap.size w x → Kd.C (Kd.int .u8) x (some (a.add n)) 4 (l.drop n) from fun x hx => by
      have := drop_C (Kd.C_below HC.out hx) n (by omega)
      rw [show l.length - n = 4 by omega] at this
      exact this)
    have HCT := Aside0.mk (show ∀ x, Below w.heap.size w x → Kd.C (Kd.int .u8) x (some a) n (l.take n) from fun x hx => take_C (Kd.C_below HC.out hx) n (by omega))
    have HTB := Aside0.mk (show ∀ x ∈ l.take n, 0 ≤ x ∧ x ≤ 255 from fun x hx => HBY.out x (List.mem_of_mem_take hx))
    have HDL := Aside0.mk (show (l.drop n).length = 4 by rw [List.length_drop]; omega)
    have HTL := Aside0.mk (show (l.take n).length = n by rw [List.length_take]; omega)
    rw [hn] at hl hc ⊢
    clear ho h4 hn
    obtain ⟨b, hbb⟩ : ∃ b : Bool, b = decide (l.drop n = leB (Crc.sum (l.take n)) 4) := ⟨_, rfl⟩
    have HBB := Aside0.mk hbb
    clear hbb
    have q1 : ((n + 4 : Nat) : Int) - 4 = n := by omega
    have q2 : decide ((n : Int) < 0) = false := decide_eq_false (by omega)
    have q3 : (n : Int) ≤ (n : Int) + 4 := by omega
    have q4 : (n : Int) + 4 ≤ c := by omega
    have q5 : (n : Int) ≤ c := by omega
    go_enter Try.func72, Try.ntmps72
    go_wp2_with fail
    refine Go.Rg.region (Below w.heap.size w) (fun x y => Below x.heap.size x y) (fun x => Below.refl _ x) (fun x y z h k => h.trans (k.mono h.size)) [.s, .s, .s, .s, .s, .s, .s, .s, .s, .w, .w, .w, .s, .s] (by kernel_rfl) (by kernel_rfl) (below_drew1 (Below.refl _ _)) (fun ne => ?_)
    refine Go.Rg.lex_q 9 _ _ _ _ _ (by rfl) ?_; simp only [List.take_succ_cons, List.take_zero, List.drop_succ_cons, List.drop_zero]; (repeat (go_big_quiet_step (rfl))); refine wpQuiet_nil ?_
    refine Go.Rg.step_w (by rfl) (fun K' hK => ?_)
    go_wp2_with fail
    have HB1 := Aside0.mk (below_drew1 (Below.refl w.heap.size w))
    have hs := sum_any (some a) c (l.take n) _ (by rw [HTL.out]; exact HCT.out _ HB1.out) HTB.out (by rw [HTL.out]; omega)
    rw [HTL.out] at hs
    refine hs.mono ?_
    clear hs
    rintro e w1 ⟨rfl, hw1⟩
    rw [← hw1] at HB1
    have HW1 := Aside0.mk hw1
    clear hw1
    go_wp2_with fail
    refine hK.out _ _ HB1.out (by rw [HW1.out]; exact Below.refl _ _) ?_
    clear hK K'
    try simp only [Act.put, List.setIfInBounds_toArray, List.set_cons_succ, List.set_cons_zero]
    refine Go.Rg.step_w (by rfl) (fun K' hK => ?_)
    go_wp2_with fail
    refine (tail_any (Crc.sum (l.take n)) w1 (sum_range _).1 (sum_range _).2).mono ?_
    rintro e w2 ⟨v2, rfl, hr2, b2⟩
    obtain ⟨A2, c2, rfl⟩ := Kd.R_slice hr2
    have HR2 := Aside0.mk hr2
    have HB2 := Aside0.mk (HB1.out.trans (b2.mono HB1.out.size))
    have HS2 := Aside0.mk b2
    have hc2 := (Kd.R_reads' hr2).2.1
    clear hr2 b2
    rw [leB_len] at hc2 ⊢
    go_wp2_with fail
    refine hK.out _ _ HB2.out HS2.out ?_
    clear hK K'
    try simp only [Act.put, List.setIfInBounds_toArray, List.set_cons_succ, List.set_cons_zero]
    refine Go.Rg.step_w (by rfl) (fun K' hK => ?_)
    go_wp2_with fail
    have heq := slices_Equal_byte_byte.calls (4 + (l.drop n).length + 1) (some (a.add n)) (c - n) (l.drop n) A2 c2 (leB (Crc.sum (l.take n)) 4) b w2 (by rw [HDL.out]; exact HCD.out _ HB2.out) (by rw [HDL.out]; omega) (row_at HR2.out) (by rw [leB_len]; exact hc2) (by rw [equal_plain _ _ 4 (by rw [HDL.out]; omega), HBB.out])
    rw [HDL.out, leB_len] at heq
    refine heq.mono ?_
    clear heq
    rintro e w3 ⟨rfl, hd3⟩
    have HB3 := Aside0.mk (HB2.out.trans (hd3.below.mono HB2.out.size))
    have HS3 := Aside0.mk hd3.below
    clear hd3
    go_wp2_with fail
    refine hK.out _ _ HB3.out HS3.out ?_
    clear hK K'
    try simp only [Act.put, List.setIfInBounds_toArray, List.set_cons_succ, List.set_cons_zero]
    refine Go.Rg.lex_q 2 _ _ _ _ _ (by rfl) ?_; simp only [List.take_succ_cons, List.take_zero, List.drop_succ_cons, List.drop_zero]; (repeat (go_big_quiet_step (rfl))); refine wpQuiet_nil ?_
    refine Go.Rg.lex_nil ?_
    cases b with
    | false =>
      go_wp2_with fail
      have hq : R = ([], 12) := by rw [HRR.out, if_pos (of_decide_eq_false HBB.out.symm)]
      go_ret2
      exact ⟨_, by rw [hq]; rfl, by rw [hq]; exact Kd.R_nil _ _ _ _ _, HB3.out⟩
    | true =>
      go_wp2_with fail
      have hcl := clone8 a c (l.take n) (by rw [HTL.out]; exact HCT.out _ HB3.out) (by rw [HTL.out]; omega)
      rw [HTL.out] at hcl
      refine hcl.mono ?_
      clear hcl
      rintro e w4 ⟨v4, rfl, hr4, b4, _⟩
      have HR4 := Aside0.mk (Kd.R_lower hr4 HB3.out.size)
      have HB4 := Aside0.mk (HB3.out.trans (b4.mono HB3.out.size))
      clear hr4 b4
      go_wp2_with fail
      have hq : R = (l.take n, 0) := by rw [HRR.out, if_neg (fun h => h (of_decide_eq_true HBB.out.symm))]
      go_ret2
      exact ⟨_, by rw [hq]; rfl, by rw [hq]; exact HR4.out, HB4.out⟩
end Cell
end Go.Proofs.Ytopfjmeejpamjaa
end
section
namespace Go.Proofs.Ytopfjmeejpamjaa
set_option linter.unusedVariables false
set_option linter.unusedSimpArgs false
open Go.RowKit Go.Proofs.YtopfjmeejpamjaaW.PrintWords Go.Proofs.YtopfjmeejpamjaaW.PrintLast Go.Proofs.YtopfjmeejpamjaaW.PrintMore
namespace Cell
open Go.Num Go.Crc PCellGets
theorem byte_inj {x y : Int} (hx : 0 ≤ x ∧ x ≤ 255) (hy : 0 ≤ y ∧ y ≤ 255) (h : UInt8.ofNat x.toNat = UInt8.ofNat y.toNat) : x = y := by
  have := congrArg UInt8.toNat h
  rw [UInt8.toNat_ofNat', UInt8.toNat_ofNat', Nat.mod_eq_of_lt (by omega), Nat.mod_eq_of_lt (by omega)] at this
  omega
theorem map_inj : ∀ {xs ys : List Int}, (∀ x ∈ xs, 0 ≤ x ∧ x ≤ 255) → (∀ x ∈ ys, 0 ≤ x ∧ x ≤ 255) → (xs.map fun n => UInt8.ofNat n.toNat) = (ys.map fun n => UInt8.ofNat n.toNat) → xs = ys
  | [], [], _, _, _ => rfl
  | x :: xs, y :: ys, hx, hy, h => by
    simp only [List.map_cons, List.cons.injEq] at h
    rw [byte_inj (hx x List.mem_cons_self) (hy y List.mem_cons_self) h.1, map_inj (fun z hz => hx z (List.mem_cons_of_mem _ hz)) (fun z hz => hy z (List.mem_cons_of_mem _ hz)) h.2]
  | [], y :: ys, _, _, h => by simp at h
  | x :: xs, [], _, _, h => by simp at h
theorem str_inj {xs ys : List Int} (hx : ∀ x ∈ xs, 0 ≤ x ∧ x ≤ 255) (hy : ∀ x ∈ ys, 0 ≤ x ∧ x ≤ 255) (h : (strOfNums xs).toList = (strOfNums ys).toList) : xs = ys := by
  rw [ByteArray.toList_eq, ByteArray.toList_eq, strOfNums_data, strOfNums_data] at h
  exact map_inj hx hy h
theorem str8 {w : World} {base : Nat} {ok : Nat → Prop} {A : Option Addr} {l c : Nat} {xs : List Int} (h : Kd.R (Kd.int .u8) 5 w base ok (.slice A l c) xs) (x : World) (b : Below w.heap.size w x) : (convert 26 9 (.slice A l c)).run Try.prog x = .ok (.string (strOfNums xs)) x := by
  have h2 := Kd.R_below h b
  obtain ⟨A2, c2, e⟩ := Kd.R_slice h2
  cases e
  exact Kd.C_string Try.underlying26 Try.underlying5 Try.underlying9 (row_at h2)
theorem below_steps {x y z : World} (h : Below x.heap.size x y) (k : Below y.heap.size y z) : Below x.heap.size x z := h.trans (k.mono h.size)
theorem strC {w : World} {A : Option Addr} {n c : Nat} {xs : List Int} (h : Kd.C (Kd.int .u8) w A n xs) : (convert 26 9 (.slice A n c)).run Try.prog w = .ok (.string (strOfNums xs)) w :=
  Kd.C_string Try.underlying26 Try.underlying5 Try.underlying9 h
set_option maxHeartbeats 8000000 in
set_option maxRecDepth 100000 in
theorem xopen_any (A : Option Addr) (c : Nat) (l : List Int) (w : World) (hC : Kd.C (Kd.int .u8) w A l.length l) (hb : ∀ x ∈ l, 0 ≤ x ∧ x ≤ 255) (hl : l.length ≤ 200000) (hc : l.length ≤ c) :
    Calls Try.prog 80 #[.slice A l.length c] w fun e w' => ∃ A' c', e = .returned (.tuple #[.slice A' (openP l).1.length c', .int .i64 (openP l).2]) ∧ (openP l).1.length ≤ c' ∧ (∀ x, Below w.heap.size w x → Kd.C (Kd.int .u8) x A' (openP l).1.length (openP l).1) ∧ Below w.heap.size w w' := by
  have HC := Aside0.mk hC
  have HBY := Aside0.mk hb
  have HNIL := Aside0.mk (show ∀ x : World, Kd.C (Kd.int .u8) x none 0 [] from fun x => ⟨rfl, by decide, fun h => absurd h (by decide)⟩)
  clear hC hb
  obtain ⟨R, hR⟩ : ∃ R, R = openP l := ⟨_, rfl⟩
  rw [← hR]
  by_cases h4 : l.length < 4
  · have HQ := Aside0.mk (show R = ([], 12) by rw [hR]; unfold openP; rw [if_pos (.inl h4)])
    clear hR
    have hneg : (l.length : Int) - 4 < 0 := by omega
    go_enter Try.func80, Try.ntmps80
    go_wp2_with fail
    refine Go.Rg.region (Below w.heap.size w) (fun x y => Below x.heap.size x y) (fun x => Below.refl _ x) (fun x y z => below_steps) [.s, .s, .s, .s, .s, .s, .v, .s, .s, .s, .s, .s] (by kernel_rfl) (by kernel_rfl) (below_drew1 (Below.refl _ _)) (fun ne => ?_)
    refine Go.Rg.lex_q 6 _ _ _ _ _ (by rfl) ?_; simp only [List.take_succ_cons, List.take_zero, List.drop_succ_cons, List.drop_zero]; (repeat (go_big_quiet_step (rfl))); refine wpQuiet_nil ?_
    refine Go.Rg.step_v (fun K' hK => ?_)
    go_wp2_with fail
    refine hK.out _ _ (below_drew1 (Below.refl _ _)) (Below.refl _ _) ?_
    clear hK K'
    try simp only [Act.put, List.setIfInBounds_toArray, List.set_cons_succ, List.set_cons_zero]
    refine Go.Rg.lex_q 5 _ _ _ _ _ (by rfl) ?_; simp only [List.take_succ_cons, List.take_zero, List.drop_succ_cons, List.drop_zero]; (repeat (go_big_quiet_step (rfl))); refine wpQuiet_nil ?_
    refine Go.Rg.lex_nil ?_
    go_wp2_with fail
    go_ret2
    exact ⟨none, 0, by rw [HQ.out]; rfl, by rw [HQ.out]; exact Nat.le_refl _, fun x hx => by rw [HQ.out]; exact HNIL.out x, below_drew1 (Below.refl _ _)⟩
  · obtain ⟨a, rfl⟩ : ∃ a, A = some a := by obtain ⟨a, ha, _⟩ := HC.out.2.2 (by omega); exact ⟨a, ha⟩
    obtain ⟨n, hn⟩ : ∃ n : Nat, l.length = n + 4 := ⟨l.length - 4, by omega⟩
    have ho : openP l = if l.drop n ≠ leB (Crc.sum (l.take n)) 4 then ([], 12) else (l.take n, 0) := by
      unfold openP
      rw [show l.length - 4 = n by omega]
      by_cases hd : l.drop n ≠ leB (Crc.sum (l.take n)) 4
      · rw [if_pos (.inr hd), if_pos hd]
      · rw [if_neg (by intro h; rcases h with h | h; omega; exact hd h), if_neg hd]
    have HRR := Aside0.mk (hR.trans ho)
    have HCT := Aside0.mk (show ∀ x, Below w.heap.size w x → Kd.C (Kd.int .u8) x (some a) n (l.take n) from fun x hx => take_C (Kd.C_below HC.out hx) n (by omega))
    have HTB := Aside0.mk (show ∀ x ∈ l.take n, 0 ≤ x ∧ x ≤ 255 from fun x hx => HBY.out x (List.mem_of_mem_take hx))
    have HTL := Aside0.mk (show (l.take n).length = n by rw [List.length_take]; omega)
    have HSL := Aside0.mk (show (sealB (l.take n)).length = n + 4 by rw [seal_len, HTL.out])
    have HLN := Aside0.mk hn
    rw [hn] at hl hc ⊢
    clear ho h4 hn hR
    have q2 : decide ((n : Int) < 0) = false := decide_eq_false (by omega)
    have q3 : (n : Int) ≤ (n : Int) + 4 := by omega
    have q4 : (n : Int) + 4 ≤ c := by omega
    have q5 : (n : Int) ≤ c := by omega
    obtain ⟨U, hU⟩ : ∃ U, U = strOfNums l := ⟨_, rfl⟩
    have HU := Aside0.mk hU
    have hsu : ∀ m : Go.Reg.In (Below w.heap.size w), (convert 26 9 (.slice (some a) (n + 4) c)).run Try.prog m.w = .ok (.string U) m.w := fun m => by rw [HU.out]; have := Kd.C_below HC.out m.h; rw [HLN.out] at this; exact strC this
    obtain ⟨T, hT⟩ : ∃ T, T = strOfNums (sealB (l.take n)) := ⟨_, rfl⟩
    have HT := Aside0.mk hT
    have HFIN := Aside0.mk (show (T = U ∧ R = (l.take n, 0)) ∨ (¬ T.toList = U.toList ∧ R = ([], 12)) by
      by_cases hd : l.drop n ≠ leB (Crc.sum (l.take n)) 4
      · right
        refine ⟨fun e => hd ?_, by rw [HRR.out, if_pos hd]⟩
        rw [hT, hU] at e
        have e2 := str_inj (seal_byte HTB.out) HBY.out e
        have e3 := congrArg (List.drop n) e2
        unfold sealB at e3
        rw [List.drop_append_of_le_length (by rw [HTL.out]; exact Nat.le_refl _), List.drop_eq_nil_of_le (by rw [HTL.out]; exact Nat.le_refl _), List.nil_append] at e3
        exact e3.symm
      · left
        refine ⟨?_, by rw [HRR.out, if_neg hd]⟩
        rw [hT, hU]
        congr 1
        unfold sealB
        have hd' : l.drop n = leB (Crc.sum (l.take n)) 4 := Classical.not_not.1 hd
        rw [← hd', List.take_append_drop])
    clear hU hT
    have STEP : ∀ (w1 : World) (b : Bool), True := fun _ _ => trivial
    rcases HFIN.out with ⟨hTU, hq⟩ | ⟨hTU, hq⟩
    all_goals
      have HQ := Aside0.mk hq
      clear hq STEP HFIN
      try subst hTU
      try have hne : (!T.toList == U.toList) = true := by simpa using hTU
      go_enter Try.func80, Try.ntmps80
      go_wp2_with fail
      refine Go.Rg.region (Below w.heap.size w) (fun x y => Below x.heap.size x y) (fun x => Below.refl _ x) (fun x y z => below_steps) [.s, .s, .s, .s, .s, .s, .w, .r, .s, .s, .s, .s] (by kernel_rfl) (by kernel_rfl) (below_drew1 (Below.refl _ _)) (fun ne => ?_)
      refine Go.Rg.lex_q 6 _ _ _ _ _ (by rfl) ?_; simp only [List.take_succ_cons, List.take_zero, List.drop_succ_cons, List.drop_zero]; (repeat (go_big_quiet_step (rfl))); refine wpQuiet_nil ?_
      refine Go.Rg.step_w (by rfl) (fun K' hK => ?_)
      go_wp2_with fail
      have HB1 := Aside0.mk (below_drew1 (Below.refl w.heap.size w))
      have hs := chantryref02_Seal.calls (0 + 11 * (l.take n).length + 1) (some a) c (l.take n) (sealB (l.take n)) _ (by rw [HTL.out]; exact HCT.out _ HB1.out) (by rw [HTL.out]; omega) (xseal_plain 0 _ HTB.out (by rw [HTL.out]; omega))
      rw [HTL.out] at hs
      refine hs.mono ?_
      clear hs
      rintro e w2 ⟨v2, rfl, hr2, b2⟩
      obtain ⟨A2, c2, rfl⟩ := Kd.R_slice hr2
      have HR2 := Aside0.mk hr2
      have HB2 := Aside0.mk (below_steps HB1.out b2)
      have HS2 := Aside0.mk b2
      clear hr2 b2
      rw [HSL.out] at HR2 ⊢
      go_wp2_with fail
      refine hK.out _ _ HB2.out HS2.out ?_
      clear hK K'
      try simp only [Act.put, List.setIfInBounds_toArray, List.set_cons_succ, List.set_cons_zero]
      refine Go.Rg.lex_rm 1 _ _ _ _ _ (by rfl) ?_; simp only [List.take_succ_cons, List.take_zero, List.drop_succ_cons, List.drop_zero]
      have hst : ∀ m : Go.Reg.In (fun y => Below w.heap.size w y ∧ Below w2.heap.size w2 y), (convert 26 9 (.slice A2 (n + 4) c2)).run Try.prog m.w = .ok (.string T) m.w := fun m => by rw [HT.out]; exact str8 HR2.out _ m.h.2
      (repeat (go_big_quiet_step (rfl))); refine wpQuiet_nil ?_
      refine Go.Rg.lex_q 4 _ _ _ _ _ (by rfl) ?_; simp only [List.take_succ_cons, List.take_zero, List.drop_succ_cons, List.drop_zero]; (repeat (go_big_quiet_step (rfl))); refine wpQuiet_nil ?_
      refine Go.Rg.lex_nil ?_
      clear hst hsu
      go_wp2_with fail
      go_ret2
      first
        | exact ⟨none, 0, by rw [HQ.out]; rfl, by rw [HQ.out]; exact Nat.le_refl _, fun x hx => by rw [HQ.out]; exact HNIL.out x, HB2.out⟩
        | exact ⟨some a, c, by rw [HQ.out]; show _ = Ending.returned (.tuple #[.slice (some a) (l.take n).length c, .int .i64 0]); rw [HTL.out]; rfl, by rw [HQ.out]; show (l.take n).length ≤ c; rw [HTL.out]; omega, fun x hx => by rw [HQ.out]; show Kd.C _ x (some a) (l.take n).length (l.take n); rw [HTL.out]; exact HCT.out x hx, HB2.out⟩
end Cell
end Go.Proofs.Ytopfjmeejpamjaa
end
section
namespace Go.Proofs.Ytopfjmeejpamjaa
set_option linter.unusedVariables false
set_option linter.unusedSimpArgs false
open Go.RowKit Go.Proofs.YtopfjmeejpamjaaW.PrintWords Go.Proofs.YtopfjmeejpamjaaW.PrintLast Go.Proofs.YtopfjmeejpamjaaW.PrintMore
namespace Cell
open Go.Num Go.Crc PCellGets
def u8s (l : List Int) : List Value := l.map (Value.int .u8)
theorem u8s_len (l : List Int) : (u8s l).length = l.length := List.length_map _
structure Only (b : Nat) (w w' : World) : Prop where
  os : w'.os = w.os
  tape : w'.tape = w.tape
  output : w'.output = w.output
  size : w.heap.size ≤ w'.heap.size
  block : ∀ k, k < w.heap.size → k ≠ b → w'.heap[k]? = w.heap[k]?
theorem Only.refl (b : Nat) (w : World) : Only b w w := ⟨rfl, rfl, rfl, Nat.le_refl _, fun _ _ _ => rfl⟩
theorem Only.trans {b : Nat} {x y z : World} (h : Only b x y) (k : Only b y z) : Only b x z :=
  ⟨k.os.trans h.os, k.tape.trans h.tape, k.output.trans h.output, Nat.le_trans h.size k.size, fun q hq hn => (k.block q (Nat.lt_of_lt_of_le hq h.size) hn).trans (h.block q hq hn)⟩
theorem Only.of_below {b : Nat} {x y : World} (h : Below x.heap.size x y) : Only b x y := ⟨h.os, h.tape, h.output, h.size, fun k hk _ => h.block k hk⟩
theorem Only.set (w : World) (b k : Nat) (v : Value) : Only b w (w.setCell ⟨b, k, none⟩ v) :=
  ⟨rfl, rfl, rfl, by simp [World.setCell], fun q _ hn => Below.heap_setCell _ _ _ _ hn⟩
theorem Only.below {b base : Nat} {x y : World} (h : Only b x y) (hb : base ≤ b) (hx : base ≤ x.heap.size) : Below base x y := ⟨h.os, h.tape, h.output, h.size, fun k hk => h.block k (by omega) (by omega)⟩
structure PCx (w : World) (base cb : Nat) (bs : List Int) (g off c : Nat) (all : List Int) (sp : List Value) : Prop where
  cbase : base ≤ cb
  cells : w.heap[cb]? = some (.cells #[.slice (some ⟨g, off, none⟩) bs.length c, .bool false] 112 (0, 0))
  row : w.heap[g]? = some (.cells (u8s all ++ sp).toArray 5 (0, 0))
  at_ : bs = all.drop off ∨ bs = []
  room : bs.length ≤ c
  few : bs.length ≤ 200000
def PC (w : World) (base cb : Nat) (bs : List Int) (bad : Bool) : Prop :=
  if bad then base ≤ cb ∧ bs = [] ∧ w.heap[cb]? = some (.cells #[.slice none 0 0, .bool true] 112 (0, 0)) else ∃ g off c all sp, PCx w base cb bs g off c all sp
theorem PCx.ne {w : World} {base cb g off c : Nat} {bs all : List Int} {sp : List Value} (h : PCx w base cb bs g off c all sp) : g ≠ cb := by
  rintro rfl
  have := h.cells.symm.trans h.row
  simp at this
theorem PCx.C {w : World} {base cb g off c : Nat} {bs all : List Int} {sp : List Value} (h : PCx w base cb bs g off c all sp) : Kd.C (Kd.int .u8) w (some ⟨g, off, none⟩) bs.length bs := by
  have hf := h.few
  refine Kd.C_of_reads (enc := fun x => Value.int .u8 x) (d := (0:Int)) (h1 := fun _ => rfl) ⟨rfl, by omega, fun _ => ⟨_, rfl, fun j hj => ?_⟩⟩
  rcases h.at_ with he | he
  · have hadd : (⟨g, off, none⟩ : Addr).add j = ⟨g, off + j, none⟩ := by unfold Addr.add; split <;> simp_all
    have hja : off + j < all.length := by rw [he, List.length_drop] at hj; omega
    rw [hadd, cell_blk h.row, List.getElem?_toArray, List.getElem?_append_left (by rw [u8s_len]; exact hja)]
    unfold u8s
    rw [List.getElem?_map, List.getD_eq_getElem?_getD, he, List.getElem?_drop, List.getElem?_eq_getElem hja]
    rfl
  · rw [he] at hj; simp at hj
theorem PC.only {w w' : World} {base cb b : Nat} {bs : List Int} {bad : Bool} (h : PC w base cb bs bad) (f : Below w.heap.size w w') : PC w' base cb bs bad := by
  unfold PC at *
  cases bad with
  | true => exact ⟨h.1, h.2.1, (f.block _ (blk_lt h.2.2)).trans h.2.2⟩
  | false =>
    obtain ⟨g, off, c, all, sp, h⟩ := h
    exact ⟨g, off, c, all, sp, h.cbase, (f.block _ (blk_lt h.cells)).trans h.cells, (f.block _ (blk_lt h.row)).trans h.row, h.at_, h.room, h.few⟩
set_option maxRecDepth 100000 in
theorem bad_any {w : World} {base cb : Nat} {bs : List Int} {bad : Bool} (h : PC w base cb bs bad) :
    Calls Try.prog 36 #[.pointer (some ⟨cb, 0, none⟩)] w fun e w' => e = .returned (.bool bad) ∧ w' = w := by
  have c1 : w.cell? ⟨cb, 1, none⟩ = some (.bool bad) := by
    unfold PC at h
    cases bad with
    | true => exact cell_blk h.2.2
    | false => obtain ⟨_, _, _, _, _, h⟩ := h; exact cell_blk h.cells
  clear h
  go_enter Try.func36, Try.ntmps36
  go_wp2_with fail
  go_ret
  exact ⟨rfl, rfl⟩
set_option maxHeartbeats 8000000 in
set_option maxRecDepth 100000 in
theorem fail_any {w : World} {base cb : Nat} {bs : List Int} {bad : Bool} (h : PC w base cb bs bad) :
    Calls Try.prog 75 #[.pointer (some ⟨cb, 0, none⟩)] w fun e w' => (∃ v, e = .returned v) ∧ PC w' base cb [] true ∧ Only cb w w' := by
  obtain ⟨v0, v1, hc, hb, one⟩ : ∃ v0 v1, w.heap[cb]? = some (.cells #[v0, v1] 112 (0, 0)) ∧ base ≤ cb ∧ v0.oneCell' = true := by
    unfold PC at h
    cases bad with
    | true => exact ⟨_, _, h.2.2, h.1, rfl⟩
    | false => obtain ⟨_, _, _, _, _, h⟩ := h; exact ⟨_, _, h.cells, h.cbase, rfl⟩
  have c0 : w.cell? ⟨cb, 0, none⟩ = some v0 := cell_blk hc
  have f0 : w.frozen? ⟨cb, 0, none⟩ = false := frozen_blk hc
  have c1 : w.cell? ⟨cb, 1, none⟩ = some v1 := cell_blk hc
  have f1 : w.frozen? ⟨cb, 1, none⟩ = false := frozen_blk hc
  have HC := Aside0.mk hc
  have HB := Aside0.mk hb
  clear h hc hb
  go_enter Try.func75, Try.ntmps75
  go_wp2_with fail
  go_end0
  refine ⟨⟨_, rfl⟩, ⟨HB.out, rfl, ?_⟩, (Only.set _ _ _ _).trans (Only.set _ _ _ _)⟩
  rw [blk_set (blk_set HC.out 0 _) 1 _]
  rfl
set_option maxHeartbeats 8000000 in
set_option maxRecDepth 100000 in
theorem from_any {w : World} (a : Addr) (c : Nat) (l : List Int) (hC : Kd.C (Kd.int .u8) w (some a) l.length l) (hl : l.length ≤ 200000) :
    Calls Try.prog 32 #[.slice (some a) l.length c] w fun e w' => ∃ cb, e = .returned (.pointer (some ⟨cb, 0, none⟩)) ∧ PC w' w.heap.size cb l false ∧ Below w.heap.size w w' := by
  have HC := Aside0.mk hC
  clear hC
  go_enter Try.func32, Try.ntmps32
  go_wp2_with fail
  refine (clone8 a c l HC.out (by omega)).mono ?_
  rintro e w1 ⟨v, rfl, hr, b1, hv⟩
  obtain ⟨_, ho⟩ := Kd.own_of_R hr
  rcases ho with ⟨hv', _⟩ | ⟨g, cap, cur, rfl, hbase, hb, hn, hmx, hcs, hcur⟩
  · exact absurd hv' hv
  have hrow : w1.heap[g]? = some (.cells (u8s l ++ cur.toList.drop l.length).toArray 5 (0, 0)) := by
    rw [hb]
    have e : u8s l = cur.toList.take l.length := by rw [Nat.mul_one] at hcur; exact hcur.symm
    rw [e, List.take_append_drop]
  have HB1 := Aside0.mk b1
  have HROW := Aside0.mk hrow
  have HN := Aside0.mk hn
  clear hr b1 hv hb hcs hcur hrow hbase
  go_wp2_with fail
  go_ret
  have hx : (w1.alloc (.cells #[.slice (some ⟨g, 0, none⟩) l.length cap, .bool false] 112)).heap[w1.heap.size]? = some (.cells #[.slice (some ⟨g, 0, none⟩) l.length cap, .bool false] 112 (0, 0)) := heap_alloc_new w1 _
  have hb2 : Below w1.heap.size w1 (w1.alloc (.cells #[.slice (some ⟨g, 0, none⟩) l.length cap, .bool false] 112)) := (Below.refl _ _).alloc (Nat.le_refl _) _
  exact ⟨w1.heap.size, rfl, ⟨g, 0, cap, l, _, HB1.out.size, hx, (hb2.block _ (blk_lt HROW.out)).trans HROW.out, .inl rfl, HN.out, hl⟩, HB1.out.trans (hb2.mono HB1.out.size)⟩
def takeOk (bs : List Int) (bad : Bool) (n : Int) : Bool := !bad && (decide (0 ≤ n) && decide (n ≤ bs.length))
set_option maxHeartbeats 8000000 in
set_option maxRecDepth 100000 in
theorem take_no {w : World} {base cb : Nat} {bs : List Int} {bad : Bool} (h : PC w base cb bs bad) (n : Int) (hk : takeOk bs bad n = false) :
    Calls Try.prog 35 #[.pointer (some ⟨cb, 0, none⟩), .int .i64 n] w fun e w' => e = .returned (.slice none 0 0) ∧ PC w' base cb [] true ∧ Only cb w w' := by
  have HP := Aside0.mk h
  cases bad with
  | true =>
    clear h hk
    go_enter Try.func35, Try.ntmps35
    go_wp2_with fail
    refine (bad_any HP.out).mono ?_
    rintro e w1 ⟨rfl, rfl⟩
    go_wp2_with fail
    refine (fail_any HP.out).mono ?_
    rintro e w2 ⟨⟨v, rfl⟩, p, o⟩
    have HP2 := Aside0.mk p
    have HO2 := Aside0.mk o
    clear p o
    go_wp2_with fail
    go_ret
    exact ⟨rfl, HP2.out, HO2.out⟩
  | false =>
    obtain ⟨g, off, c, all, sp, hx⟩ := h
    have c0 : w.cell? ⟨cb, 0, none⟩ = some (.slice (some ⟨g, off, none⟩) bs.length c) := cell_blk hx.cells
    clear hx
    have hk' : n < 0 ∨ (bs.length : Int) < n := by
      unfold takeOk at hk
      simp at hk
      omega
    clear hk
    by_cases hn : n < 0
    · clear hk'
      go_enter Try.func35, Try.ntmps35
      go_wp2_with fail
      refine (bad_any HP.out).mono ?_
      rintro e w1 ⟨rfl, rfl⟩
      go_wp2_with fail
      refine (fail_any HP.out).mono ?_
      rintro e w2 ⟨⟨v, rfl⟩, p, o⟩
      have HP2 := Aside0.mk p
      have HO2 := Aside0.mk o
      clear p o c0
      go_wp2_with fail
      go_ret
      exact ⟨rfl, HP2.out, HO2.out⟩
    · have hgt : (bs.length : Int) < n := by omega
      clear hk'
      go_enter Try.func35, Try.ntmps35
      go_wp2_with fail
      refine (bad_any HP.out).mono ?_
      rintro e w1 ⟨rfl, rfl⟩
      go_wp2_with fail
      refine (fail_any HP.out).mono ?_
      rintro e w2 ⟨⟨v, rfl⟩, p, o⟩
      have HP2 := Aside0.mk p
      have HO2 := Aside0.mk o
      clear p o c0
      go_wp2_with fail
      go_ret
      exact ⟨rfl, HP2.out, HO2.out⟩
theorem copy8 {w : World} {g : Nat} (a : Addr) (n sl sc : Nat) (P : List Int) (hb : w.heap[g]? = some (.cells (u8s (List.replicate n 0)).toArray 5 (0, 0))) (hP : P.length = n) (hn : n ≤ sl) (hs : ∀ j, j < P.length → w.cell? (a.add j) = some (.int .u8 (P.getD j 0))) :
    ∃ w', (Builtin.copy_ #[26, 26] 3 #[.slice (some ⟨g, 0, none⟩) n n, .slice (some a) sl sc]).run Try.prog w = .ok (.int .i64 (n : Int)) w' ∧ w'.heap[g]? = some (.cells (u8s P).toArray 5 (0, 0)) ∧ Only g w w' := by
  have hsz : ∀ j, j < P.length → 0 + j < (u8s (List.replicate n 0)).toArray.size := fun j hj => by rw [List.size_toArray, u8s_len, List.length_replicate]; omega
  have hr := run_copy_cells (P := Try.prog) w 26 26 3 5 g 0 n n a sl sc (u8s P) Try.underlying26 (by kernel_rfl) (by rw [u8s_len, hP]; show n = min sl n; omega) (fun j v hv => ?_) (fun j hj => ?_) (fun j hj => ?_) (fun v hv => ?_)
  · refine ⟨w.setCells g 0 (u8s P), ?_, ?_, ?_⟩
    · rw [u8s_len, hP] at hr
      exact hr
    · obtain ⟨cur', h1, h2, h3⟩ := setCells_row (u8s P) 0 w (u8s (List.replicate n 0)).toArray hb (by rw [List.size_toArray, u8s_len, u8s_len, List.length_replicate]; omega)
      rw [h1]
      have : cur' = (u8s P).toArray := by
        apply Array.ext'
        rw [h3]
        simp only [List.take_zero, List.nil_append, Nat.zero_add]
        rw [List.drop_eq_nil_of_le (by rw [u8s_len, u8s_len, List.length_replicate]; omega), List.append_nil]
      rw [this]
    · obtain ⟨s1, s2, s3, s4⟩ := setCells_same g (u8s P) 0 w
      exact ⟨s1, s2, s3, by rw [s4]; exact Nat.le_refl _, fun k _ hk => setCells_far _ _ _ hk⟩
  · have hjl : j < P.length := by
      rcases Nat.lt_or_ge j P.length with h | h
      · exact h
      · rw [List.getElem?_eq_none (by rw [u8s_len]; exact h)] at hv; cases hv
    have e : v = .int .u8 (P.getD j 0) := by
      unfold u8s at hv
      rw [List.getElem?_map, List.getElem?_eq_getElem hjl] at hv
      simp at hv
      rw [← hv]
      simp [hjl]
    rw [e]
    exact hs j hjl
  · rw [cell_blk hb, Array.getElem?_eq_getElem (hsz j (by rw [u8s_len] at hj; exact hj))]
    rfl
  · exact frozen_blk hb
  · unfold u8s at hv
    obtain ⟨x, _, rfl⟩ := List.mem_map.1 hv
    rfl
set_option maxHeartbeats 8000000 in
set_option maxRecDepth 100000 in
theorem take_yes {w : World} {base cb : Nat} {bs : List Int} (h : PC w base cb bs false) (n : Nat) (hk : n ≤ bs.length) :
    Calls Try.prog 35 #[.pointer (some ⟨cb, 0, none⟩), .int .i64 n] w fun e w' => ∃ v, e = .returned v ∧ Kd.R (Kd.int .u8) 5 w' w.heap.size (fun _ => True) v (bs.take n) ∧ PC w' base cb (bs.drop n) false ∧ Only cb w w' := by
  have HP := Aside0.mk h
  obtain ⟨g, off, c, all, sp, hx⟩ := h
  have c0 : w.cell? ⟨cb, 0, none⟩ = some (.slice (some ⟨g, off, none⟩) bs.length c) := cell_blk hx.cells
  have hfew := hx.few
  have hroom := hx.room
  have hcl : cb < w.heap.size := blk_lt hx.cells
  have HX := Aside0.mk hx
  have hmk : ∀ W : World, (Instr.makeSlice 26 (.int .i64 (n : Int)) (.int .i64 (n : Int))).run Try.prog W = .ok (.slice (some ⟨W.heap.size, 0, none⟩) n n) (W.alloc (.cells (u8s (List.replicate n 0)).toArray 5)) := fun W => by
    have := make8 n (by omega) W
    rw [made8] at this
    exact this
  have hn0 : decide ((n : Int) < 0) = false := decide_eq_false (by omega)
  have hn1 : decide (bs.length < n) = false := decide_eq_false (by omega)
  obtain ⟨W, hW⟩ : ∃ W, W = w.alloc (.cells (u8s (List.replicate n 0)).toArray 5) := ⟨_, rfl⟩
  have hbW : Below w.heap.size w W := by rw [hW]; exact (Below.refl _ _).alloc (Nat.le_refl _) _
  have hnew : W.heap[w.heap.size]? = some (.cells (u8s (List.replicate n 0)).toArray 5 (0, 0)) := by rw [hW]; exact heap_alloc_new w _
  have htl : (bs.take n).length = n := by rw [List.length_take]; omega
  obtain ⟨w2, hcp, hrow2, ho2⟩ := copy8 (w := W) ⟨g, off, none⟩ n bs.length c (bs.take n) hnew htl hk (fun j hj => by
    obtain ⟨ad, e, hcell⟩ := Kd.at_int (Kd.C_below hx.C hbW) (j : Int) (by omega) (by omega)
    cases e
    rw [Int.toNat_natCast] at hcell
    rw [hcell]
    unfold rd
    rw [Int.toNat_natCast, List.getD_eq_getElem?_getD, List.getD_eq_getElem?_getD, List.getElem?_take_of_lt (by omega)])
  have hO : ∀ k, k < w.heap.size → w2.heap[k]? = w.heap[k]? := fun k hk' => (ho2.block k (Nat.lt_of_lt_of_le hk' hbW.size) (by omega)).trans (hbW.block k hk')
  have hB2 : Below w.heap.size w w2 := ⟨ho2.os.trans hbW.os, ho2.tape.trans hbW.tape, ho2.output.trans hbW.output, Nat.le_trans hbW.size ho2.size, hO⟩
  have hcells2 := (hO cb hcl).trans hx.cells
  have d0 : w2.cell? ⟨cb, 0, none⟩ = some (.slice (some ⟨g, off, none⟩) bs.length c) := cell_blk hcells2
  have g0 : w2.frozen? ⟨cb, 0, none⟩ = false := frozen_blk hcells2
  have HC2 := Aside0.mk hcells2
  have HR2 := Aside0.mk ((hO g (blk_lt hx.row)).trans hx.row)
  have HB2 := Aside0.mk hB2
  have HNEW := Aside0.mk hrow2
  have HTL := Aside0.mk htl
  have HNE := Aside0.mk (show w.heap.size ≠ cb by omega)
  rw [hW] at hcp
  clear hx hbW hnew htl hrow2 ho2 hO hB2 hcells2 hW HP
  have fin : ∀ (A' : Addr) (c' : Nat), (A' = ⟨g, off + n, none⟩ ∨ (A' = ⟨g, off, none⟩ ∧ bs.length = n)) → bs.length - n ≤ c' → Kd.R (Kd.int .u8) 5 (w2.setCell ⟨cb, 0, none⟩ (.slice (some A') (bs.length - n) c')) w.heap.size (fun _ => True) (.slice (some ⟨w.heap.size, 0, none⟩) n n) (bs.take n) ∧ PC (w2.setCell ⟨cb, 0, none⟩ (.slice (some A') (bs.length - n) c')) base cb (bs.drop n) false ∧ Only cb w (w2.setCell ⟨cb, 0, none⟩ (.slice (some A') (bs.length - n) c')) := fun A' c' hA hc' => by
    have hs := blk_set HC2.out 0 (.slice (some A') (bs.length - n) c')
    have hne := HX.out.ne
    refine ⟨?_, ?_, (Only.of_below HB2.out).trans (Only.set _ _ _ _)⟩
    · have hr : (w2.setCell ⟨cb, 0, none⟩ (.slice (some A') (bs.length - n) c')).heap[w.heap.size]? = some (.cells ((bs.take n).map (Value.int .u8) ++ []).toArray 5 (0, 0)) := by
        rw [Below.heap_setCell _ _ _ _ HNE.out, List.append_nil]
        exact HNEW.out
      have := row_of (base := w.heap.size) (ok := fun _ => True) hr (Nat.le_refl _) trivial (cap := n) (by rw [HTL.out]; rfl) (by omega)
      rw [HTL.out] at this
      exact this
    · have hdl : (bs.drop n).length = bs.length - n := List.length_drop
      have hat : bs.drop n = all.drop (off + n) ∨ bs.drop n = [] := by
        rcases HX.out.at_ with he | he
        · left; rw [he, List.drop_drop]
        · right; rw [he, List.drop_nil]
      have hrow : (w2.setCell ⟨cb, 0, none⟩ (.slice (some A') (bs.length - n) c')).heap[g]? = some (.cells (u8s all ++ sp).toArray 5 (0, 0)) := by rw [Below.heap_setCell _ _ _ _ hne]; exact HR2.out
      rcases hA with rfl | ⟨rfl, hl⟩
      · exact ⟨g, off + n, c', all, sp, HX.out.cbase, by rw [hs, hdl]; rfl, hrow, hat, by rw [hdl]; exact hc', by rw [hdl]; omega⟩
      · exact ⟨g, off, c', all, sp, HX.out.cbase, by rw [hs, hdl]; rfl, hrow, .inr (List.drop_eq_nil_of_le (by omega)), by rw [hdl]; exact hc', by rw [hdl]; omega⟩
  have HFIN := Aside0.mk fin
  clear fin
  by_cases hcn : c = n
  · have HBN := Aside0.mk (show bs.length = n by omega)
    subst hcn
    go_enter Try.func35, Try.ntmps35
    go_wp2_with fail
    refine (bad_any (w := w) (base := base) (bs := bs) (bad := false) ⟨g, off, c, all, sp, HX.out⟩).mono ?_
    rintro e w1 ⟨rfl, hw1⟩
    obtain rfl : w1 = w := hw1
    go_wp2_with fail
    go_ret
    have hf := HFIN.out ⟨g, off, none⟩ 0 (.inr ⟨rfl, HBN.out⟩) (by have := HBN.out; omega)
    rw [show bs.length - c = 0 by have := HBN.out; omega] at hf
    exact ⟨_, rfl, hf⟩
  · go_enter Try.func35, Try.ntmps35
    go_wp2_with fail
    refine (bad_any (w := w) (base := base) (bs := bs) (bad := false) ⟨g, off, c, all, sp, HX.out⟩).mono ?_
    rintro e w1 ⟨rfl, hw1⟩
    obtain rfl : w1 = w := hw1
    go_wp2_with fail
    go_ret
    exact ⟨_, rfl, HFIN.out _ _ (.inl rfl) (by omega)⟩
set_option maxRecDepth 100000 in
theorem left_any {w : World} {base cb : Nat} {bs : List Int} (h : PC w base cb bs false) :
    Calls Try.prog 37 #[.pointer (some ⟨cb, 0, none⟩)] w fun e w' => e = .returned (.int .i64 (bs.length : Int)) ∧ w' = w := by
  have HP := Aside0.mk h
  obtain ⟨g, off, c, all, sp, hx⟩ := h
  have c0 : w.cell? ⟨cb, 0, none⟩ = some (.slice (some ⟨g, off, none⟩) bs.length c) := cell_blk hx.cells
  clear hx
  go_enter Try.func37, Try.ntmps37
  go_wp2_with fail
  refine (bad_any HP.out).mono ?_
  rintro e w1 ⟨rfl, rfl⟩
  go_wp2_with fail
  go_ret
  exact ⟨rfl, rfl⟩
def maxL : List Int → Int
  | [] => 0
  | x :: l => max x (maxL l)
theorem maxL_snoc (l : List Int) (x : Int) (hx : 0 ≤ x) : maxL (l ++ [x]) = max (maxL l) x := by
  induction l with
  | nil => simp [maxL]; omega
  | cons y l ih => simp only [List.cons_append, maxL, ih]; omega
theorem maxL_range (l : List Int) (h : ∀ x ∈ l, 0 ≤ x ∧ x ≤ 255) : 0 ≤ maxL l ∧ maxL l ≤ 255 := by
  induction l with
  | nil => simp [maxL]
  | cons y l ih =>
    have h1 := h y List.mem_cons_self
    have h2 := ih (fun z hz => h z (List.mem_cons_of_mem _ hz))
    simp only [maxL]
    omega
theorem maxL_zero (l : List Int) (h : ∀ x ∈ l, 0 ≤ x ∧ x ≤ 255) : maxL l = 0 ↔ ∀ x ∈ l, x = 0 := by
  induction l with
  | nil => simp [maxL]
  | cons y l ih =>
    have h1 := h y List.mem_cons_self
    have h2 := ih (fun z hz => h z (List.mem_cons_of_mem _ hz))
    have h3 := maxL_range l (fun z hz => h z (List.mem_cons_of_mem _ hz))
    simp only [maxL, List.mem_cons, forall_eq_or_imp]
    rw [← h2]
    omega
set_option maxHeartbeats 8000000 in
set_option maxRecDepth 100000 in
theorem max_any {w : World} (A : Option Addr) (c : Nat) (l : List Int) (hC : Kd.C (Kd.int .u8) w A l.length l) (hb : ∀ x ∈ l, 0 ≤ x ∧ x ≤ 255) (h0 : 0 < l.length) (hl : l.length ≤ 200000) :
    Calls Try.prog 74 #[.slice A l.length c] w fun e w' => e = .returned (.int .u8 (maxL l)) ∧ w' = w := by
  have HC := Aside0.mk hC
  have HBY := Aside0.mk hb
  obtain ⟨a, rfl, hcell⟩ := Kd.at_int hC 0 (by omega) (by omega)
  have hz : a.add (0 : Int).toNat = a := by unfold Addr.add; simp
  rw [hz] at hcell
  have hm1 : maxL (l.take 1) = rd l 0 := by
    match l, h0 with
    | x :: l, _ =>
      have := hb x List.mem_cons_self
      simp [maxL, rd]
      omega
  obtain ⟨x0, hx0⟩ : ∃ x, x = rd l 0 := ⟨_, rfl⟩
  rw [← hx0] at hcell hm1
  have HM1 := Aside0.mk hm1
  have hlt : (0 : Int) < l.length := by omega
  clear hC hb hm1 hx0 hz
  go_enter Try.func74, Try.ntmps74
  go_wp2_with fail
  go_loopg [4, 3] (l.length - 1) (fun g v4 v3 wr => ∃ (i : Nat) (x : Int), Aside0 (i + g = l.length ∧ 1 ≤ i) ∧ v4 = .int .i64 i ∧ v3 = .int .u8 x ∧ Aside0 (x = maxL (l.take i)) ∧ Aside0 (wr = w))
  case atStart => exact ⟨1, x0, ⟨by omega⟩, rfl, rfl, ⟨HM1.out.symm⟩, ⟨rfl⟩⟩
  case round =>
    obtain ⟨i, x, HI, rfl, rfl, HX, HW⟩ := hrel
    by_cases hi : i < l.length
    · obtain ⟨ad, e, hc2⟩ := Kd.at_int HC.out (i : Int) (by omega) (by omega)
      cases e
      rw [← HW.out, Int.toNat_natCast] at hc2
      have hyb := rd_byte HBY.out i
      have hxb := maxL_range (l.take i) (fun z hz => HBY.out z (List.mem_of_mem_take hz))
      rw [← HX.out] at hxb
      have HNX := Aside0.mk (show maxL (l.take (i + 1)) = max x (rd l (i : Int)) by
        rw [List.take_succ_eq_append_getElem hi, maxL_snoc _ _ (HBY.out _ (List.getElem_mem hi)).1, rd_get i hi, HX.out])
      obtain ⟨y, hy⟩ : ∃ y, y = rd l (i : Int) := ⟨_, rfl⟩
      rw [← hy] at hc2 hyb HNX
      obtain ⟨hy0, hy1⟩ := hyb
      obtain ⟨hx0, hx1⟩ := hxb
      clear hy
      by_cases hlt2 : x < y
      · have hmx : max x y = y := by omega
        rw [hmx] at HNX
        go_wp2_with fail
        go_roundg (gk - 1)
        case measure => have := HI.out; omega
        case rel => exact ⟨i + 1, y, ⟨by have := HI.out; omega⟩, by go_num, by simp [hmx], ⟨HNX.out.symm⟩, HW⟩
      · have hmx : max x y = x := by omega
        rw [hmx] at HNX
        go_wp2_with fail
        go_roundg (gk - 1)
        case measure => have := HI.out; omega
        case rel => exact ⟨i + 1, x, ⟨by have := HI.out; omega⟩, by go_num, by simp [hmx], ⟨HNX.out.symm⟩, HW⟩
    · have hin : i = l.length := by have := HI.out; omega
      subst hin
      rw [List.take_length] at HX
      go_wp2_with fail
      go_ret
      exact ⟨by rw [← HX.out]; rfl, HW.out⟩
end Cell
end Go.Proofs.Ytopfjmeejpamjaa
end
section
namespace Go.Proofs.Ytopfjmeejpamjaa
set_option linter.unusedVariables false
set_option linter.unusedSimpArgs false
set_option linter.ambiguousOpen false
open Go.RowKit Go.Proofs.YtopfjmeejpamjaaW.PrintWords Go.Proofs.YtopfjmeejpamjaaW.PrintLast Go.Proofs.YtopfjmeejpamjaaW.PrintMore
namespace Sect
open Go.Num Go.Crc PCellGets Go.Proofs.Ytopfjmeejpamjaa.Cell
theorem unfix2 (l : List Int) (hl : l.length = 2) (hb : ∀ x ∈ l, 0 ≤ x ∧ x ≤ 255) : unfixP l = (unB l, 0) ∧ 0 ≤ unB l ∧ unB l ≤ 65535 := by
  have h := unB_lt l hb
  rw [hl] at h
  have h2 : (256 : Int) ^ 2 = 65536 := by decide
  rw [h2] at h
  refine ⟨?_, h.1, by omega⟩
  unfold unfixP
  rw [if_neg (by omega), if_neg (by omega)]
theorem take_byte {l : List Int} (hb : ∀ x ∈ l, 0 ≤ x ∧ x ≤ 255) (i k : Nat) : ∀ x ∈ (l.drop i).take k, 0 ≤ x ∧ x ≤ 255 := fun x hx => hb x (List.mem_of_mem_drop (List.mem_of_mem_take hx))
theorem open_err (l : List Int) : (openP l).2 = 0 ∨ (openP l).2 = 12 := by
  unfold openP
  split
  · exact .inr rfl
  · exact .inl rfl
theorem open_len (l : List Int) (h : (openP l).2 = 0) : (openP l).1 = l.take (l.length - 4) ∧ 4 ≤ l.length := by
  unfold openP at *
  split at h
  · cases h
  · rename_i hn
    rw [if_neg hn]
    exact ⟨rfl, by omega⟩
theorem rowN {w : World} {b t : Nat} {x : Int} (hb : w.heap[b]? = some (.cells #[.int .u8 x] t (0, 0))) : Kd.C (Kd.int .u8) w (some ⟨b, 0, none⟩) 1 [x] := by
  refine Kd.C_of_reads (enc := fun x => Value.int .u8 x) (d := (0:Int)) (h1 := fun _ => rfl) ⟨rfl, by decide, fun _ => ⟨_, rfl, fun j hj => ?_⟩⟩
  obtain rfl : j = 0 := by omega
  have : (⟨b, 0, none⟩ : Addr).add 0 = ⟨b, 0, none⟩ := by unfold Addr.add; simp
  rw [this, cell_blk hb]
  rfl
theorem unfix_any {w : World} (A : Option Addr) (c : Nat) (l : List Int) (hC : Kd.C (Kd.int .u8) w A l.length l) (hc : l.length ≤ c) (hb : ∀ x ∈ l, 0 ≤ x ∧ x ≤ 255) :
    Calls Try.prog 34 #[.slice A l.length c] w fun e w' => e = .returned (.tuple #[.int .i64 (unfixP l).1, .int .i64 (unfixP l).2]) ∧ Below w.heap.size w w' :=
  (num_Unfix.calls 7 A c l _ _ w hC hc (unfix_plain 0 l hb)).mono (fun _ _ h => ⟨h.1, h.2.below⟩)
theorem R_bnd {w : World} {base t : Nat} {ok : Nat → Prop} {v : Value} {xs : List Int} (h : Kd.R (Kd.int .u8) t w base ok v xs) : Kd.R (Kd.int .u8) t w base (fun k => base ≤ k) v xs := Kd.R_mono (Kd.R_bound h) (fun k hk => hk.2.1)
theorem only_trans' {b : Nat} {x y z : World} (h : Only b x y) (k : Below x.heap.size y z) : Only b x z :=
  ⟨k.os.trans h.os, k.tape.trans h.tape, k.output.trans h.output, Nat.le_trans h.size k.size, fun q hq hn => (k.block q hq).trans (h.block q hq hn)⟩
theorem pc_lt {w : World} {base cb : Nat} {bs : List Int} {bad : Bool} (h : PC w base cb bs bad) : cb < w.heap.size ∧ base ≤ cb := by
  unfold PC at h
  cases bad with
  | true => exact ⟨blk_lt h.2.2, h.1⟩
  | false => obtain ⟨_, _, _, _, _, h⟩ := h; exact ⟨blk_lt h.cells, h.cbase⟩
theorem append_same {a b c d : List Int} (h : a ++ b = c ++ d) (hl : a.length = c.length) : a = c ∧ b = d := List.append_inj h hl
theorem open_seal (l : List Int) : openP (sealB l) = (l, 0) := by
  unfold openP
  have e : (sealB l).length - 4 = l.length := by rw [seal_len]; omega
  rw [e, if_neg]
  · unfold sealB
    rw [List.take_left]
  · rintro (h | h)
    · rw [seal_len] at h; omega
    · apply h
      unfold sealB
      rw [List.drop_left, List.take_left]
theorem open_ok (l : List Int) (h : (openP l).2 = 0) : l = sealB (openP l).1 := by
  unfold openP at *
  split at h
  · cases h
  · rename_i hn
    rw [if_neg hn]
    have h2 : l.drop (l.length - 4) = leB (Crc.sum (l.take (l.length - 4))) 4 := Classical.not_not.1 (fun e => hn (.inr e))
    show l = sealB (l.take (l.length - 4))
    unfold sealB
    rw [← h2, List.take_append_drop]
theorem seal_inj {a b : List Int} (h : sealB a = sealB b) : a = b := by
  have hl : a.length = b.length := by
    have := congrArg List.length h
    rw [seal_len, seal_len] at this
    omega
  unfold sealB at h
  exact (append_same h hl).1
theorem unfix_le (n : Int) (h0 : 0 ≤ n) (h1 : n ≤ 2147483647) (k : Nat) (hk1 : 1 ≤ k) (hk : k ≤ 4) (hs : n < 256 ^ k) : unfixP (leB n k) = (n, 0) := by
  unfold unfixP
  rw [leB_len, if_neg (by omega), unB_leB_small n k h0 hs, if_neg (by omega)]
theorem unfix_leB (l : List Int) (hb : ∀ x ∈ l, 0 ≤ x ∧ x ≤ 255) (k : Nat) (hk : l.length = k) (h2 : (unfixP l).2 = 0) : leB (unfixP l).1 k = l := by
  unfold unfixP at *
  split at h2
  · cases h2
  · rename_i h
    rw [if_neg h]
    split at h2
    · cases h2
    · rename_i h'
      rw [if_neg h', ← hk]
      exact leB_unB l hb
theorem maxL_rep (k : Nat) : maxL (List.replicate k 0) = 0 := by
  induction k with
  | zero => rfl
  | succ k ih => rw [List.replicate_succ]; simp [maxL, ih]
theorem cut2 {a b l : List Int} (k : Nat) (h : l = a ++ b) (hk : a.length = k) : l.take k = a ∧ l.drop k = b := by
  subst h; subst hk
  exact ⟨List.take_left, List.drop_left⟩
theorem all_zero (l : List Int) (hb : ∀ x ∈ l, 0 ≤ x ∧ x ≤ 255) (h : maxL l = 0) : l = List.replicate l.length 0 := by
  rw [List.eq_replicate_iff]
  exact ⟨rfl, fun x hx => (maxL_zero l hb).1 h x hx⟩
theorem own_byte {l : List Int} (hb : ∀ x ∈ l, 0 ≤ x ∧ x ≤ 255) (h : (openP l).2 = 0) : ∀ x ∈ (openP l).1, 0 ≤ x ∧ x ≤ 255 := fun x hx => hb x (by rw [(open_len l h).1] at hx; exact List.mem_of_mem_take hx)
theorem wrap_id (z : Int) (h0 : -9223372036854775808 ≤ z) (h1 : z ≤ 9223372036854775807) : wrap64 z = z := by
  first | (unfold wrap64; omega) | (simp [wrap64]; omega)
theorem xfix_any (k : Nat) (hk : 7 ≤ k) (n w : Int) : chantryref01_Fix.f k n w = some (fixP n w) := by
  obtain ⟨j, rfl⟩ : ∃ j, k = j + 7 := ⟨k - 7, by omega⟩
  exact xfix_plain j n w
theorem nilC (x : World) : Kd.C (Kd.int .u8) x none 0 [] := ⟨rfl, by decide, fun h => absurd h (by decide)⟩
theorem C_but {w w2 : World} {b t n : Nat} {cs : Array Value} {A : Option Addr} {xs : List Int} (h : Kd.C (Kd.int .u8) w A n xs) (hb : w.heap[b]? = some (.cells cs t (0, 0))) (hne : ∀ (k : Nat) (v : Int), cs[k]? ≠ some (.int .u8 v)) (hf : ∀ k, k ≠ b → w2.heap[k]? = w.heap[k]?) : Kd.C (Kd.int .u8) w2 A n xs := by
  have hn : xs.length = n := h.1
  by_cases h0 : 0 < n
  · obtain ⟨a, rfl, _⟩ := h.2.2 h0
    refine Kd.C_of_reads (enc := fun x => Value.int .u8 x) (d := (0:Int)) (h1 := fun _ => rfl) ⟨hn, h.2.1, fun _ => ⟨_, rfl, fun j hj => ?_⟩⟩
    obtain ⟨a', e, hc⟩ := Kd.at_int h (j : Int) (by omega) (by omega)
    cases e
    rw [Int.toNat_natCast] at hc
    have hbk : (a.add j).block ≠ b := by
      intro e
      unfold World.cell? at hc
      rw [e, hb] at hc
      simp only at hc
      split at hc
      · cases hc
      · exact hne _ _ hc
    unfold World.cell? at hc ⊢
    rw [hf _ hbk]
    simpa [rd] using hc
  · obtain rfl : n = 0 := by omega
    exact ⟨hn, h.2.1, fun h => absurd h h0⟩
theorem below_up {x y : World} {k : Nat} (h : Below k x y) (hk : k ≤ x.heap.size := by omega) : Below k x y := h
theorem xunfix_any {w : World} (A : Option Addr) (c : Nat) (l : List Int) (n : Nat) (hn : l.length = n) (hC : Kd.C (Kd.int .u8) w A n l) (hc : n ≤ c) (hb : ∀ x ∈ l, 0 ≤ x ∧ x ≤ 255) :
    Calls Try.prog 43 #[.slice A n c] w fun e w' => e = .returned (.tuple #[.int .i64 (unfixP l).1, .int .i64 (unfixP l).2]) ∧ Below w.heap.size w w' := by
  subst hn
  exact (chantryref01_Unfix.calls 7 A c l _ _ w hC hc (xunfix_plain 0 l hb)).mono (fun _ _ h => ⟨h.1, h.2.below⟩)
end Sect
end Go.Proofs.Ytopfjmeejpamjaa
namespace Go.Proofs.Ytopfjmeejpamjaa
set_option linter.unusedVariables false
set_option linter.unusedSimpArgs false
open Go.RowKit Go.Proofs.YtopfjmeejpamjaaW.PrintWords Go.Proofs.YtopfjmeejpamjaaW.PrintLast Go.Proofs.YtopfjmeejpamjaaW.PrintMore
namespace Sect
set_option linter.ambiguousOpen false
open Go.Num Go.Crc Go.Proofs.Ytopfjmeejpamjaa.Cell
def secOk (k e n l : Int) (d : List Int) : Bool := decide (1 ≤ k ∧ k ≤ 255 ∧ 0 ≤ l ∧ l ≤ 65535 ∧ 0 ≤ e ∧ e ≤ 2147483647 ∧ 0 ≤ n ∧ n ≤ 2147483647 ∧ d.length ≤ 48)
theorem within_plain (n a b : Int) : PSectorGets.sector_within.f n a b = some (decide (a ≤ n ∧ n < b)) := by
  unfold PSectorGets.sector_within.f
  by_cases h : n ≥ a
  · rw [if_pos h]; congr 1; exact decide_eq_decide.2 (by omega)
  · rw [if_neg h]; congr 1; exact (decide_eq_false (by omega)).symm
theorem may_plain (k e n l : Int) (d : List Int) : PSectorGets.sector_may.f k e n l d = some (secOk k e n l d) := by
  unfold PSectorGets.sector_may.f secOk
  simp only [within_plain, Option.bind_some]
  repeat' split
  all_goals first | (congr 1; exact decide_eq_decide.2 (by simp_all; omega)) | (congr 1; exact (decide_eq_false (by simp_all; omega)).symm) | (congr 1; exact (decide_eq_false (fun hh => by simp_all; omega)).symm)
def headS (k e n l : Int) (d : List Int) : List Int := leB k 1 ++ (leB (d.length : Int) 1 ++ (leB l 2 ++ (leB e 4 ++ leB n 4)))
def bodyS (k e n l : Int) (d : List Int) : List Int := (headS k e n l d ++ d) ++ List.replicate (48 - d.length) 0
theorem headS_len (k e n l : Int) (d : List Int) : (headS k e n l d).length = 12 := by simp [headS, leB_len]
theorem bodyS_len (k e n l : Int) (d : List Int) (hd : d.length ≤ 48) : (bodyS k e n l d).length = 60 := by
  unfold bodyS
  rw [List.length_append, List.length_append, headS_len, List.length_replicate]
  omega
theorem headS_byte (k e n l : Int) (d : List Int) : ∀ y ∈ headS k e n l d, 0 ≤ y ∧ y ≤ 255 := by
  intro y hy
  unfold headS at hy
  rcases List.mem_append.1 hy with h | h
  · exact leB_byte _ _ y h
  rcases List.mem_append.1 h with h | h
  · exact leB_byte _ _ y h
  rcases List.mem_append.1 h with h | h
  · exact leB_byte _ _ y h
  rcases List.mem_append.1 h with h | h
  · exact leB_byte _ _ y h
  · exact leB_byte _ _ y h
theorem bodyS_byte (k e n l : Int) (d : List Int) (hb : ∀ y ∈ d, 0 ≤ y ∧ y ≤ 255) : ∀ y ∈ bodyS k e n l d, 0 ≤ y ∧ y ≤ 255 := by
  intro y hy
  unfold bodyS at hy
  rcases List.mem_append.1 hy with h | h
  · rcases List.mem_append.1 h with h | h
    · exact headS_byte _ _ _ _ _ y h
    · exact hb y h
  · rw [(List.mem_replicate.1 h).2]; omega
def putS (k e n l : Int) (d : List Int) : List Int × Int := if secOk k e n l d = true then (sealB (bodyS k e n l d), 0) else ([], 1)
theorem fix_ok (n : Int) (j : Nat) (hj : j = 1 ∨ j = 2 ∨ j = 4) (h : 0 ≤ n ∧ n < 256 ^ j ∧ n ≤ 2147483647) : fixP n (j : Int) = (leB n j, 0) := by
  unfold fixP
  rcases hj with rfl | rfl | rfl
  · rw [if_neg (by rw [show (256 : Int) ^ (((1 : Nat) : Int)).toNat = 256 from by decide]; omega)]; rfl
  · rw [if_neg (by rw [show (256 : Int) ^ (((2 : Nat) : Int)).toNat = 65536 from by decide]; omega)]; rfl
  · rw [if_neg (by rw [show (256 : Int) ^ (((4 : Nat) : Int)).toNat = 4294967296 from by decide]; omega)]; rfl
theorem fixk_any (n : Int) (j : Nat) (w : World) (hj : j = 1 ∨ j = 2 ∨ j = 4) (h : 0 ≤ n ∧ n < 256 ^ j ∧ n ≤ 2147483647) :
    Calls Try.prog 27 #[.int .i64 n, .int .i64 (j : Int)] w fun e w' => ∃ v, e = .returned (.tuple #[v, .int .i64 0]) ∧ Kd.R (Kd.int .u8) 5 w' w.heap.size (fun _ => True) v (leB n j) ∧ Below w.heap.size w w' := by
  have hf := fix_ok n j hj h
  rcases hj with rfl | rfl | rfl
  · have := fix1_any n w (by omega)
    rw [show ((1 : Nat) : Int) = 1 from rfl] at hf ⊢
    rw [hf] at this
    exact this
  · have := fix2_any n w (by omega)
    rw [show ((2 : Nat) : Int) = 2 from rfl] at hf ⊢
    rw [hf] at this
    exact this
  · have := fix4_any n w (by omega)
    rw [show ((4 : Nat) : Int) = 4 from rfl] at hf ⊢
    rw [hf] at this
    exact this
structure PB (w0 w : World) (b : Nat) (xs : List Int) (A : Option Addr) (c : Nat) : Prop where
  below : Below w0.heap.size w0 w
  at_b : w.heap[b]? = some (.cells #[.slice A xs.length c] 26 (0, 0))
  base : w0.heap.size ≤ b
  row : Kd.R (Kd.int .u8) 5 w w0.heap.size (fun _ => True) (.slice A xs.length c) xs
theorem PB.lt {w0 w : World} {b c : Nat} {xs : List Int} {A : Option Addr} (h : PB w0 w b xs A c) : b < w.heap.size := blk_lt h.at_b
theorem PB.step {w0 w w' : World} {b c : Nat} {xs : List Int} {A : Option Addr} (h : PB w0 w b xs A c) (hb : Below w.heap.size w w') : PB w0 w' b xs A c :=
  ⟨h.below.trans (hb.mono h.below.size), (hb.block _ h.lt).trans h.at_b, h.base, Kd.R_below h.row hb⟩
theorem one_set {w : World} {b t : Nat} {a0 : Value} (h : w.heap[b]? = some (.cells #[a0] t (0, 0))) (v0 : Value) : (w.setCell ⟨b, 0, none⟩ v0).heap[b]? = some (.cells #[v0] t (0, 0)) := by
  have := blk_set h 0 v0
  rw [this]
  rfl
theorem R_setne {w : World} {base b t : Nat} {cs : Array Value} {v u : Value} {xs : List Int} (h : Kd.R (Kd.int .u8) 5 w base (fun _ => True) v xs) (hb : w.heap[b]? = some (.cells cs t (0, 0))) (ht : t ≠ 5) : Kd.R (Kd.int .u8) 5 (w.setCell ⟨b, 0, none⟩ u) base (fun _ => True) v xs :=
  Kd.R_mono (Kd.R_step (Kd.R_bound h) (fun k hk hlt => Below.heap_setCell w ⟨b, 0, none⟩ u k (fun e => by
    obtain ⟨_, _, _, q, hq, cells, hcl⟩ := hk
    have e : k = b := e
    rw [e, hb] at hcl
    cases hcl
    simp [Kd.int, Kd.scalar] at hq
    exact ht hq))) (fun _ _ => trivial)
set_option maxHeartbeats 8000000 in
set_option maxRecDepth 100000 in
theorem put1_any {w0 w : World} {b c : Nat} {xs : List Int} {A : Option Addr} (h : PB w0 w b xs A c) (n : Int) (j : Nat) (hj : j = 1 ∨ j = 2 ∨ j = 4) (hn : 0 ≤ n ∧ n < 256 ^ j ∧ n ≤ 2147483647) (hx : xs.length ≤ 1000) :
    Calls Try.prog 68 #[.int .i64 n, .int .i64 (j : Int), .pointer (some ⟨b, 0, none⟩)] w fun e w' => (∃ v, e = .returned v) ∧ ∃ A' c', PB w0 w' b (xs ++ leB n j) A' c' ∧ ∀ (i t : Nat) (cs : Array Value), t ≠ 5 → i ≠ b → w.heap[i]? = some (.cells cs t (0, 0)) → w'.heap[i]? = some (.cells cs t (0, 0)) := by
  have H := Aside0.mk h
  clear h
  obtain ⟨J, hJ⟩ : ∃ J : Int, J = (j : Int) := ⟨_, rfl⟩
  have HFX := fixk_any n j w hj hn
  rw [← hJ] at HFX
  have HF := Aside0.mk HFX
  rw [← hJ]
  clear HFX hJ
  go_enter Try.func68, Try.ntmps68
  go_wp2_with fail
  refine HF.out.mono ?_
  clear HF
  rintro e w1 ⟨v1, rfl, hr1, b1⟩
  obtain ⟨A1, c1, rfl⟩ := Kd.R_slice hr1
  have H1 := Aside0.mk (H.out.step b1)
  have HC1 := Aside0.mk (row_at hr1)
  have HK := Aside0.mk (show ∀ (i t : Nat) (cs : Array Value), t ≠ 5 → i ≠ b → w.heap[i]? = some (.cells cs t (0, 0)) → w1.heap[i]? = some (.cells cs t (0, 0)) from fun i t cs _ _ hi => (b1.block _ (blk_lt hi)).trans hi)
  have hl1 := leB_len n j
  rw [hl1]
  have HL1 := Aside0.mk hl1
  have q0 : w1.cell? ⟨b, 0, none⟩ = some (.slice A xs.length c) := cell_blk H1.out.at_b
  clear hr1 b1 H hl1
  go_wp2_with ((with_reducible refine gate_builtin (b := .append) (xs := #[.tmp 13, .tmp 14]) rfl ?_); at_builtin; refine Hid.out ?_)
  refine Lib.hid ?_
  refine Kd.R_append_rows (Kd.int .u8) (Rr := (Kd.int .u8).K w1) (w0 := w0) w0.heap.size rfl (.tmp 13) (.tmp 14) 26 5 (.int .u8 0) 1 rfl Try.underlying26 infoU8 rfl (by decide) (by omega) (.slice A xs.length c) xs (leB n j) A1 j c1 (fun _ => True) (fun _ => False) rfl rfl H1.out.row (by have := HC1.out; rw [HL1.out] at this; exact this) (fun x cs h => h) (fun _ hk => hk.elim) (fun _ _ => trivial) H1.out.below H1.out.below.size (by rcases hj with rfl | rfl | rfl <;> (show (xs.length + _) * 1 ≤ _; omega)) ?_
  intro v2 w2 ho hb hg _
  obtain ⟨A2, c2, rfl⟩ := Kd.R_slice ho
  have hb2 : w2.heap[b]? = some (.cells #[.slice A xs.length c] 26 (0, 0)) := (hg.block b H1.out.lt (Kd.R_ne H1.out.row H1.out.at_b (by decide))).trans H1.out.at_b
  have HB2 := Aside0.mk hb2
  have HK2 := Aside0.mk (show ∀ (i t : Nat) (cs : Array Value), t ≠ 5 → i ≠ b → w.heap[i]? = some (.cells cs t (0, 0)) → w2.heap[i]? = some (.cells cs t (0, 0)) from fun i t cs ht hi hc => by
    have := HK.out i t cs ht hi hc
    exact (hg.block i (blk_lt this) (Kd.R_ne H1.out.row this (Ne.symm ht))).trans this)
  have HO2 := Aside0.mk ho
  have HW2 := Aside0.mk hb
  have HBB := Aside0.mk H1.out.base
  have f0 : w2.frozen? ⟨b, 0, none⟩ = false := frozen_blk hb2
  have g0 : w2.cell? ⟨b, 0, none⟩ = some (.slice A xs.length c) := cell_blk hb2
  clear ho hb hg H1 hb2 HK HC1 q0
  go_wp2_with fail
  go_end0
  refine ⟨⟨_, rfl⟩, A2, c2, ⟨HW2.out.setCell HBB.out _, ?_, HBB.out, R_setne HO2.out HB2.out (by decide)⟩, fun i t cs ht hi hc => ?_⟩
  · rw [List.length_append]
    exact one_set HB2.out _
  · exact (Below.heap_setCell w2 ⟨b, 0, none⟩ _ i hi).trans (HK2.out i t cs ht hi hc)
theorem makeSlice0 (W : World) : (Instr.makeSlice 26 (.int .i64 0) (.int .i64 64)).run Try.prog W = .ok (.slice (some ⟨W.heap.size, 0, none⟩) 0 64) (W.alloc (.cells (madeCells #[.int .u8 0] 64) 5)) := by
  have hinfo := infoU8
  cases hi : Try.prog.info? 5 with
  | none => rw [hi] at hinfo; simp at hinfo
  | some i =>
    rw [hi] at hinfo
    simp only [Option.map_some, Option.some.injEq, Prod.mk.injEq] at hinfo
    obtain ⟨hz, hs, hb⟩ := hinfo
    have := run_makeSlice (w := W) (P := Try.prog) 26 5 i (.int .u8 0) Try.underlying26 hi hz .i64 .i64 0 64 (by decide) (by decide) (by rw [hs]; decide) (by rw [hb]; decide) (by decide)
    rw [hs] at this
    exact this
theorem fresh0 (w0 W : World) (hb : Below w0.heap.size w0 W) : PB w0 ((W.alloc (.cells (madeCells #[.int .u8 0] 64) 5)).alloc (.cells #[.slice (some ⟨W.heap.size, 0, none⟩) 0 64] 26)) (W.heap.size + 1) [] (some ⟨W.heap.size, 0, none⟩) 64 := by
  have h1 : (W.alloc (.cells (madeCells #[.int .u8 0] 64) 5)).heap[W.heap.size]? = some (.cells (([] : List Int).map (Value.int .u8) ++ (List.replicate 64 (0 : Int)).map (Value.int .u8)).toArray 5 (0, 0)) := by
    rw [made8]
    exact heap_alloc_new W _
  have b2 : Below (W.alloc (.cells (madeCells #[.int .u8 0] 64) 5)).heap.size (W.alloc (.cells (madeCells #[.int .u8 0] 64) 5)) ((W.alloc (.cells (madeCells #[.int .u8 0] 64) 5)).alloc (.cells #[.slice (some ⟨W.heap.size, 0, none⟩) 0 64] 26)) := (Below.refl _ _).alloc (Nat.le_refl _) _
  refine ⟨(hb.alloc hb.size _).alloc (Nat.le_trans hb.size (by simp)) _, ?_, Nat.le_trans hb.size (by omega), ?_⟩
  · have := heap_alloc_new (W.alloc (.cells (madeCells #[.int .u8 0] 64) 5)) (.cells #[.slice (some ⟨W.heap.size, 0, none⟩) 0 64] 26)
    rw [World.size_alloc] at this
    exact this
  · exact Kd.R_below (row_of (xs := []) (cap := 64) (ok := fun _ => True) h1 hb.size trivial (by simp) (by decide)) b2
theorem cells5 {x : World} {b t : Nat} {v0 v1 v2 v3 v4 : Value} (h : x.heap[b]? = some (.cells #[v0, v1, v2, v3, v4] t (0, 0))) : x.cell? ⟨b, 0, none⟩ = some v0 ∧ x.cell? ⟨b, 1, none⟩ = some v1 ∧ x.cell? ⟨b, 2, none⟩ = some v2 ∧ x.cell? ⟨b, 3, none⟩ = some v3 ∧ x.cell? ⟨b, 4, none⟩ = some v4 := ⟨cell_blk h, cell_blk h, cell_blk h, cell_blk h, cell_blk h⟩
theorem ok_parts {k e n l : Int} {d : List Int} (h : secOk k e n l d = true) : 1 ≤ k ∧ k ≤ 255 ∧ 0 ≤ l ∧ l ≤ 65535 ∧ 0 ≤ e ∧ e ≤ 2147483647 ∧ 0 ≤ n ∧ n ≤ 2147483647 ∧ d.length ≤ 48 := by
  unfold secOk at h
  exact of_decide_eq_true h
set_option maxHeartbeats 8000000 in
set_option maxRecDepth 100000 in
theorem put_any {w : World} (k e n l : Int) (A : Option Addr) (c : Nat) (d : List Int) (hC : Kd.C (Kd.int .u8) w A d.length d) (hc : d.length ≤ c) (hb : ∀ y ∈ d, 0 ≤ y ∧ y ≤ 255) :
    Calls Try.prog 28 #[.agg #[.int .i64 k, .int .i64 e, .int .i64 n, .int .i64 l, .slice A d.length c]] w fun r w' => ∃ v, r = .returned (.tuple #[v, .int .i64 (putS k e n l d).2]) ∧ Kd.R (Kd.int .u8) 5 w' w.heap.size (fun _ => True) v (putS k e n l d).1 ∧ Below w.heap.size w w' := by
  have HC := Aside0.mk hC
  have HBY := Aside0.mk hb
  clear hC hb
  obtain ⟨R, hR⟩ : ∃ R, R = putS k e n l d := ⟨_, rfl⟩
  rw [← hR]
  obtain ⟨W, hW⟩ : ∃ W, W = w.alloc (.cells #[.int .i64 k, .int .i64 e, .int .i64 n, .int .i64 l, .slice A d.length c] 69) := ⟨_, rfl⟩
  have HB0 := Aside0.mk (show Below w.heap.size w W by rw [hW]; exact (Below.refl _ _).alloc (Nat.le_refl _) _)
  have hbx : W.heap[w.heap.size]? = some (.cells #[.int .i64 k, .int .i64 e, .int .i64 n, .int .i64 l, .slice A d.length c] 69 (0, 0)) := by rw [hW]; exact heap_alloc_new w _
  have HBX := Aside0.mk hbx
  have HWE := Aside0.mk hW
  clear hW hbx
  obtain ⟨b, hbo⟩ : ∃ b, b = secOk k e n l d := ⟨_, rfl⟩
  have hmay := PSectorGets.sector_may.calls k e n l A c d b W (Kd.C_below HC.out HB0.out) hc (by rw [may_plain, hbo])
  have HM := Aside0.mk hmay
  clear hmay
  cases b with
  | false =>
    have HQ := Aside0.mk (show R = ([], 1) by rw [hR]; unfold putS; rw [← hbo]; rfl)
    clear hR hbo
    go_enter Try.func28, Try.ntmps28
    go_wp2_with fail
    rw [← HWE.out]
    refine HM.out.mono ?_
    rintro e w1 ⟨rfl, b1⟩
    have HB1 := Aside0.mk (HB0.out.trans (b1.mono HB0.out.size))
    clear b1
    go_wp2_with fail
    go_ret2
    exact ⟨_, by rw [HQ.out]; rfl, by rw [HQ.out]; exact Kd.R_nil _ _ _ _ _, HB1.out⟩
  | true =>
    have hok := ok_parts hbo.symm
    have HQ := Aside0.mk (show R = (sealB (bodyS k e n l d), 0) by rw [hR]; unfold putS; rw [← hbo]; rfl)
    clear hR hbo
    have hm0 := makeSlice0
    go_enter Try.func28, Try.ntmps28
    go_wp2_with fail
    rw [← HWE.out]
    refine HM.out.mono ?_
    rintro e w1 ⟨rfl, b1⟩
    have k1 := (b1.block _ (blk_lt HBX.out)).trans HBX.out
    have HB1 := Aside0.mk (HB0.out.trans (b1.mono HB0.out.size))
    have HK1 := Aside0.mk k1
    have hcl : ∀ ob ob', ((w1.alloc ob).alloc ob').heap[w.heap.size]? = some (.cells #[.int .i64 k, .int .i64 e, .int .i64 n, .int .i64 l, .slice A d.length c] 69 (0, 0)) := fun ob ob' => (Below.heap_alloc _ _ _ (by have := blk_lt k1; simp; omega)).trans ((Below.heap_alloc _ _ _ (blk_lt k1)).trans k1)
    have c0 : ∀ ob ob', ((w1.alloc ob).alloc ob').cell? ⟨w.heap.size, 0, none⟩ = some (.int .i64 k) := fun ob ob' => (cells5 (hcl ob ob')).1
    have HCL := Aside0.mk hcl
    clear b1 k1 hcl
    go_wp2_with fail
    clear c0
    obtain ⟨w2, hw2⟩ : ∃ w2, w2 = ((w1.alloc (.cells (madeCells #[.int .u8 0] 64) 5)).alloc (.cells #[.slice (some ⟨w1.heap.size, 0, none⟩) 0 64] 26)) := ⟨_, rfl⟩
    have hp2 := fresh0 w w1 HB1.out
    have hk2 := HCL.out (.cells (madeCells #[.int .u8 0] 64) 5) (.cells #[.slice (some ⟨w1.heap.size, 0, none⟩) 0 64] 26)
    rw [← hw2] at hp2 hk2 ⊢
    have hne : w.heap.size ≠ w1.heap.size + 1 := by have := HB1.out.size; omega
    obtain ⟨g, hg⟩ : ∃ g, g = w1.heap.size + 1 := ⟨_, rfl⟩
    rw [← hg] at hp2 hne ⊢
    have HNE := Aside0.mk hne
    have HP2 := Aside0.mk hp2
    have HK2 := Aside0.mk hk2
    clear hw2 hp2 hk2 hg hne HCL
    rw [show (1 : Int) = ((1 : Nat) : Int) from rfl]
    refine (put1_any HP2.out k 1 (by decide) (by omega) (by simp [leB_len])).mono ?_
    rintro r w3 ⟨⟨v3, rfl⟩, A3, c3, hp3, hf3⟩
    have HP3 := Aside0.mk hp3
    have HK3 := Aside0.mk (hf3 _ _ _ (by decide) HNE.out HK2.out)
    clear hp3 hf3 HP2 HK2
    obtain ⟨-, e1, e2, e3, e4⟩ := cells5 HK3.out
    go_wp2_with fail
    clear e1 e2 e3 e4
    rw [show (1 : Int) = ((1 : Nat) : Int) from rfl]
    refine (put1_any HP3.out (d.length : Int) 1 (by decide) (by omega) (by simp [leB_len])).mono ?_
    rintro r w4 ⟨⟨v4, rfl⟩, A4, c4, hp4, hf4⟩
    have HP4 := Aside0.mk hp4
    have HK4 := Aside0.mk (hf4 _ _ _ (by decide) HNE.out HK3.out)
    clear hp4 hf4 HP3 HK3
    obtain ⟨-, e1, e2, e3, e4⟩ := cells5 HK4.out
    go_wp2_with fail
    clear e1 e2 e3 e4
    rw [show (2 : Int) = ((2 : Nat) : Int) from rfl]
    refine (put1_any HP4.out l 2 (by decide) (by omega) (by simp [leB_len])).mono ?_
    rintro r w5 ⟨⟨v5, rfl⟩, A5, c5, hp5, hf5⟩
    have HP5 := Aside0.mk hp5
    have HK5 := Aside0.mk (hf5 _ _ _ (by decide) HNE.out HK4.out)
    clear hp5 hf5 HP4 HK4
    obtain ⟨-, e1, e2, e3, e4⟩ := cells5 HK5.out
    go_wp2_with fail
    clear e1 e2 e3 e4
    rw [show (4 : Int) = ((4 : Nat) : Int) from rfl]
    refine (put1_any HP5.out e 4 (by decide) (by omega) (by simp [leB_len])).mono ?_
    rintro r w6 ⟨⟨v6, rfl⟩, A6, c6, hp6, hf6⟩
    have HP6 := Aside0.mk hp6
    have HK6 := Aside0.mk (hf6 _ _ _ (by decide) HNE.out HK5.out)
    clear hp6 hf6 HP5 HK5
    obtain ⟨-, e1, e2, e3, e4⟩ := cells5 HK6.out
    go_wp2_with fail
    clear e1 e2 e3 e4
    rw [show (4 : Int) = ((4 : Nat) : Int) from rfl]
    refine (put1_any HP6.out n 4 (by decide) (by omega) (by simp [leB_len])).mono ?_
    rintro r w7 ⟨⟨v7, rfl⟩, A7, c7, hp7, hf7⟩
    have HP7 := Aside0.mk hp7
    have HK7 := Aside0.mk (hf7 _ _ _ (by decide) HNE.out HK6.out)
    clear hp7 hf7 HP6 HK6
    have HP := Aside0.mk (show PB w w7 g (headS k e n l d) A7 c7 by have := HP7.out; rw [show ((((([] : List Int) ++ leB k 1) ++ leB (d.length : Int) 1) ++ leB l 2) ++ leB e 4) ++ leB n 4 = headS k e n l d by simp [headS]] at this; exact this)
    clear HP7
    obtain ⟨-, -, -, -, e4⟩ := cells5 HK7.out
    have q0 : w7.cell? ⟨g, 0, none⟩ = some (.slice A7 12 c7) := by have := HP.out.at_b; rw [headS_len] at this; exact cell_blk this
    go_wp2_with ((with_reducible refine gate_builtin (b := .append) (xs := #[.tmp 32, .tmp 34]) rfl ?_); at_builtin; refine Hid.out ?_)
    refine Lib.hid ?_
    have hrow : Kd.R (Kd.int .u8) 5 w7 w.heap.size (fun _ => True) (.slice A7 12 c7) (headS k e n l d) := by have := HP.out.row; rw [headS_len] at this; exact this
    refine Kd.R_append_rows (Kd.int .u8) (Rr := (Kd.int .u8).K w7) (w0 := w) w.heap.size rfl (.tmp 32) (.tmp 34) 26 5 (.int .u8 0) 1 rfl Try.underlying26 infoU8 rfl (by decide) (by omega) (.slice A7 12 c7) (headS k e n l d) d A d.length c (fun _ => True) (fun _ => False) rfl rfl hrow (Kd.C_below HC.out HP.out.below) (fun x cs h => h) (fun _ hk => hk.elim) (fun _ _ => trivial) HP.out.below HP.out.below.size (by rw [headS_len]; omega) ?_
    intro v8 w8 ho hb hg _
    obtain ⟨A8, c8, rfl⟩ := Kd.R_slice ho
    have hb8 : w8.heap[g]? = some (.cells #[.slice A7 12 c7] 26 (0, 0)) := by
      have h0 := HP.out.at_b
      rw [headS_len] at h0
      exact (hg.block g (blk_lt h0) (Kd.R_ne hrow h0 (by decide))).trans h0
    have HB8 := Aside0.mk hb8
    have HO8 := Aside0.mk ho
    have HW8 := Aside0.mk hb
    have HGB := Aside0.mk HP.out.base
    have f0 : w8.frozen? ⟨g, 0, none⟩ = false := frozen_blk hb8
    have g0 : w8.cell? ⟨g, 0, none⟩ = some (.slice A7 12 c7) := cell_blk hb8
    have hl8 : (headS k e n l d ++ d).length = 12 + d.length := by rw [List.length_append, headS_len]
    have HL8 := Aside0.mk hl8
    rw [hl8]
    clear ho hb hg hb8 HP hrow e4 q0 hl8
    go_wp2_with ((with_reducible refine gate_builtin (b := .append) (xs := #[.tmp 36, .tmp 39]) rfl ?_); at_builtin; refine Hid.out ?_)
    refine Lib.hid ?_
    obtain ⟨w9, hw9⟩ : ∃ w9, w9 = w8.setCell ⟨g, 0, none⟩ (.slice A8 (12 + d.length) c8) := ⟨_, rfl⟩
    have HW9 := Aside0.mk (show Below w.heap.size w w9 by rw [hw9]; exact HW8.out.setCell HGB.out _)
    have HO9 := Aside0.mk (show Kd.R (Kd.int .u8) 5 w9 w.heap.size (fun _ => True) (.slice A8 (12 + d.length) c8) (headS k e n l d ++ d) by
      rw [hw9, ← HL8.out]
      exact R_setne HO8.out HB8.out (by decide))
    rw [← hw9]
    clear hw9 HO8 HB8 HW8 f0 g0
    refine Kd.R_append_zeros (Kd.int .u8) (w0 := w) w.heap.size rfl (.tmp 36) (.tmp 39) 26 3 5 (.int .u8 0) 1 rfl Try.underlying26 Try.underlying3 infoU8 rfl (by decide) (by omega) (.slice A8 (12 + d.length) c8) (headS k e n l d ++ d) 0 (kx := .i64) (60 - (12 + (d.length : Int))) (fun _ => True) rfl rfl rfl (fun _ _ => trivial) HO9.out (by omega) HW9.out HW9.out.size (by rw [HL8.out]; omega) ?_
    intro v10 w10 ho hb _ _
    rw [show (60 - (12 + (d.length : Int))).toNat = 48 - d.length by omega] at ho
    have HO10 := Aside0.mk (show Kd.R (Kd.int .u8) 5 w10 w.heap.size (fun _ => True) v10 (bodyS k e n l d) from ho)
    have HW10 := Aside0.mk hb
    clear ho hb
    obtain ⟨A10, c10, rfl⟩ := Kd.R_slice HO10.out
    have hbl := bodyS_len k e n l d (by omega)
    have HBL := Aside0.mk hbl
    go_wp2_with fail
    have hsl := seal_any A10 c10 (bodyS k e n l d) w10 (row_at HO10.out) (bodyS_byte k e n l d HBY.out) (by omega)
    rw [HBL.out] at hsl
    refine hsl.mono ?_
    clear hsl
    rintro r w11 ⟨v11, rfl, hr11, b11⟩
    have HR11 := Aside0.mk (Kd.R_lower hr11 HW10.out.size)
    have HB11 := Aside0.mk (HW10.out.trans (b11.mono HW10.out.size))
    clear hr11 b11 hbl
    go_wp2_with fail
    go_ret2
    exact ⟨_, by rw [HQ.out]; rfl, by rw [HQ.out]; exact HR11.out, HB11.out⟩
end Sect
end Go.Proofs.Ytopfjmeejpamjaa
namespace Go.Proofs.Ytopfjmeejpamjaa
set_option linter.unusedVariables false
set_option linter.unusedSimpArgs false
set_option linter.ambiguousOpen false
open Go.RowKit Go.Proofs.YtopfjmeejpamjaaW.PrintWords Go.Proofs.YtopfjmeejpamjaaW.PrintLast Go.Proofs.YtopfjmeejpamjaaW.PrintMore
namespace Sect
open Go.Num Go.Crc Go.Proofs.Ytopfjmeejpamjaa.Cell
def numP (ys : List Int) : Int := if (unfixP ys).2 ≠ 0 then -1 else (unfixP ys).1
def offS : Nat → Nat | 0 => 0 | 1 => 1 | 2 => 2 | 3 => 4 | 4 => 8 | _ => 12
def wideS : Nat → Nat | 0 => 1 | 1 => 1 | 2 => 2 | 3 => 4 | _ => 4
def numsS (own : List Int) (i : Nat) : List Int := (List.range i).map (fun j => numP ((own.drop (offS j)).take (wideS j)))
theorem numsS_len (own : List Int) (i : Nat) : (numsS own i).length = i := by simp [numsS]
theorem numsS_succ (own : List Int) (i : Nat) : numsS own (i + 1) = numsS own i ++ [numP ((own.drop (offS i)).take (wideS i))] := by simp [numsS, List.range_succ]
theorem infoI64 : (Try.prog.info? 3).map (fun i => (i.zero, i.size, i.bytes)) = some (some (.int .i64 0), 1, 8) := by kernel_rfl
theorem rowI {w : World} {b t : Nat} {l : List Int} (hb : w.heap[b]? = some (.cells (l.map (Value.int .i64)).toArray t (0, 0))) (hl : l.length ≤ 1000000) : Kd.C (Kd.int .i64) w (some ⟨b, 0, none⟩) l.length l := by
  refine Kd.C_of_reads (enc := fun x => Value.int .i64 x) (d := (0:Int)) (h1 := fun _ => rfl) ⟨rfl, by omega, fun _ => ⟨_, rfl, fun j hj => ?_⟩⟩
  have hadd : (⟨b, 0, none⟩ : Addr).add j = ⟨b, j, none⟩ := by unfold Addr.add; split <;> simp_all
  rw [hadd, cell_blk hb, List.getElem?_toArray, List.getElem?_map, List.getD_eq_getElem?_getD, List.getElem?_eq_getElem hj]
  rfl
theorem RI_only {w w' : World} {cb base t : Nat} {ok : Nat → Prop} {v : Value} {xs : List Int} (h : Kd.R (Kd.int .i64) t w base ok v xs) (f : Only cb w w') (hb : cb < base) : Kd.R (Kd.int .i64) t w' base ok v xs :=
  Kd.R_mono (Kd.R_step (Kd.R_bound h) (fun k hk hlt => f.block k hlt (by have := hk.2.1; omega))) (fun k hk => hk.1)
theorem wide_unfix (own : List Int) (hl : own.length = 60) (hb : ∀ y ∈ own, 0 ≤ y ∧ y ≤ 255) (i : Nat) (hi : i < 5) : offS i + wideS i = offS (i + 1) ∧ wideS i ≤ (own.drop (offS i)).length ∧ ((own.drop (offS i)).take (wideS i)).length = wideS i ∧ (own.drop (offS i)).length = 60 - offS i ∧ wideS i ≤ 4 := by
  have h0 : (own.drop (offS i)).length = 60 - offS i := by rw [List.length_drop, hl]
  rcases (show i = 0 ∨ i = 1 ∨ i = 2 ∨ i = 3 ∨ i = 4 by omega) with rfl | rfl | rfl | rfl | rfl <;> refine ⟨rfl, ?_, ?_, h0, by decide⟩ <;> first | (rw [List.length_take, h0]; rfl) | (rw [h0]; decide)
theorem pc_kept {w w' : World} {base cb : Nat} {bs : List Int} {bad : Bool} (h : PC w base cb bs bad) (hk : ∀ (k : Nat) (cs : Array Value) (t : Nat), t ≠ 3 → w.heap[k]? = some (.cells cs t (0, 0)) → w'.heap[k]? = some (.cells cs t (0, 0))) : PC w' base cb bs bad := by
  unfold PC at *
  cases bad with
  | true => exact ⟨h.1, h.2.1, hk _ _ _ (by decide) h.2.2⟩
  | false =>
    obtain ⟨g, off, c, all, sp, h⟩ := h
    exact ⟨g, off, c, all, sp, h.cbase, hk _ _ _ (by decide) h.cells, hk _ _ _ (by decide) h.row, h.at_, h.room, h.few⟩
set_option maxHeartbeats 8000000 in
set_option maxRecDepth 100000 in
theorem numbers_any {w : World} {base cb gw : Nat} (own : List Int) (hp : PC w base cb own false) (hl : own.length = 60) (hb : ∀ y ∈ own, 0 ≤ y ∧ y ≤ 255) (hw : w.heap[gw]? = some (.cells #[.int .i64 1, .int .i64 1, .int .i64 2, .int .i64 4, .int .i64 4] 3 (0, 0))) :
    Calls Try.prog 73 #[.func (.func 35) #[.pointer (some ⟨cb, 0, none⟩)] #[], .slice (some ⟨gw, 0, none⟩) 5 5] w fun e w' => ∃ A c, e = .returned (.slice A 5 c) ∧ Kd.R (Kd.int .i64) 3 w' w.heap.size (fun _ => True) (.slice A 5 c) (numsS own 5) ∧ PC w' base cb (own.drop 12) false ∧ Only cb w w' := by
  have HP := Aside0.mk hp
  have HL := Aside0.mk hl
  have HBY := Aside0.mk hb
  have HW := Aside0.mk hw
  have HCB := Aside0.mk (pc_lt hp).1
  have HNE := Aside0.mk (show gw ≠ cb from fun e => by
    subst e
    unfold PC at hp
    simp only [Bool.false_eq_true, if_false] at hp
    obtain ⟨_, _, _, _, _, h⟩ := hp
    have := h.cells.symm.trans hw
    simp at this)
  clear hp hl hb hw
  go_enter Try.func73, Try.ntmps73
  go_wp2_with fail
  go_loopg [12, 7, 8, 9, 5] 5 (fun gk v12 v7 v8 v9 v5 wr => ∃ (i : Nat) (A' : Option Addr) (c' : Nat), Aside0 (i + gk = 5) ∧ v12 = .int .i64 i ∧ v5 = .slice A' i c' ∧ Aside0 (Kd.R (Kd.int .i64) 3 wr w.heap.size (fun _ => True) (.slice A' i c') (numsS own i)) ∧ Aside0 (PC wr base cb (own.drop (offS i)) false) ∧ Aside0 (Only cb w wr))
  case atStart => exact ⟨0, none, 0, ⟨by omega⟩, rfl, rfl, ⟨Kd.R_nil _ _ _ _ _⟩, HP, ⟨Only.refl _ _⟩⟩
  case round =>
    clear HP
    obtain ⟨i, A', c', HI, rfl, rfl, HR, HP, HO⟩ := hrel
    by_cases hi : i < 5
    · have hw2 := (HO.out.block gw (blk_lt HW.out) HNE.out).trans HW.out
      have q0 : wr.cell? ⟨gw, i, none⟩ = some (.int .i64 (wideS i : Int)) := by
        rcases (show i = 0 ∨ i = 1 ∨ i = 2 ∨ i = 3 ∨ i = 4 by omega) with rfl | rfl | rfl | rfl | rfl <;> exact cell_blk hw2
      have hlt : (i : Int) < 5 := by omega
      obtain ⟨v1, v2, v3, v4, v5⟩ := wide_unfix own HL.out HBY.out i hi
      have HV := Aside0.mk (And.intro v1 (And.intro v3 v5))
      have ht := take_yes HP.out (wideS i) v2
      have HT := Aside0.mk ht
      clear hw2 ht v1 v2 v3 v4 v5
      go_wp2_with fail
      refine HT.out.mono ?_
      clear HT q0
      rintro e w1 ⟨v1, rfl, hr1, hp1, ho1⟩
      obtain ⟨A1, c1, rfl⟩ := Kd.R_slice hr1
      have HO1 := Aside0.mk (HO.out.trans ho1)
      have HR1 := Aside0.mk (RI_only HR.out ho1 HCB.out)
      have HP1 := Aside0.mk (show PC w1 base cb (own.drop (offS (i + 1))) false by rw [← HV.out.1, ← List.drop_drop]; exact hp1)
      have HC1 := Aside0.mk (row_at hr1)
      have hc1 := (Kd.R_reads' hr1).2.1
      have HS1 := Aside0.mk ho1.size
      clear hr1 hp1 ho1 HR HP
      obtain ⟨ys, hys⟩ : ∃ ys, ys = (own.drop (offS i)).take (wideS i) := ⟨_, rfl⟩
      have HYB := Aside0.mk (show ∀ x ∈ ys, 0 ≤ x ∧ x ≤ 255 by rw [hys]; exact fun x hx => HBY.out x (List.mem_of_mem_drop (List.mem_of_mem_take hx)))
      have HYN := Aside0.mk (show numsS own (i + 1) = numsS own i ++ [numP ys] by rw [hys]; exact numsS_succ own i)
      have hyl : ys.length ≤ 4 := by rw [hys, HV.out.2.1]; exact HV.out.2.2
      rw [← hys] at hc1 HC1 ⊢
      obtain ⟨yn, hyn⟩ : ∃ yn, yn = ys.length := ⟨_, rfl⟩
      have hu := unfix_any A1 c1 ys HC1.out hc1 HYB.out
      rw [← hyn] at hu hc1 ⊢
      obtain ⟨u1, hu1⟩ : ∃ z, z = (unfixP ys).1 := ⟨_, rfl⟩
      obtain ⟨u2, hu2⟩ : ∃ z, z = (unfixP ys).2 := ⟨_, rfl⟩
      rw [← hu1, ← hu2] at hu
      have HNP := Aside0.mk (show numP ys = if u2 ≠ 0 then -1 else u1 by unfold numP; rw [← hu1, ← hu2])
      have HU := Aside0.mk hu
      clear hu hu1 hu2 hys hyl hyn
      go_wp2_with fail
      refine HU.out.mono ?_
      clear HU
      rintro e w2 ⟨rfl, b2⟩
      have HO2 := Aside0.mk (HO1.out.trans (Only.of_below b2))
      have HR2 := Aside0.mk (Kd.R_below HR1.out b2)
      have HP2 := Aside0.mk (HP1.out.only (b := 0) b2)
      clear b2 HO1 HR1 HP1 HC1
      by_cases h2 : u2 = 0
      · subst h2
        have hnp := HNP.out
        simp only [ne_eq, not_true_eq_false, if_false] at hnp
        have HNQ := Aside0.mk (show numsS own (i + 1) = numsS own i ++ [u1] by rw [HYN.out, hnp])
        clear hnp HNP
        have HIL := Aside0.mk hi
        clear hi hlt
        go_wp2_with ((with_reducible refine gate_builtin (b := .append) (xs := #[.tmp 25, .tmp 27]) rfl ?_); at_builtin; refine Hid.out ?_)
        refine Lib.hid ?_
        obtain ⟨w3, hw3⟩ : ∃ w3, w3 = w2.alloc (.cells #[.int .i64 u1] 3) := ⟨_, rfl⟩
        have hb3 : Below w2.heap.size w2 w3 := by rw [hw3]; exact (Below.refl _ _).alloc (Nat.le_refl _) _
        have hn3 : w3.heap[w2.heap.size]? = some (.cells (([u1] : List Int).map (Value.int .i64)).toArray 3 (0, 0)) := by rw [hw3]; exact heap_alloc_new w2 _
        rw [← hw3]
        have HN3 := Aside0.mk (rowI hn3 (by simp))
        have HO3 := Aside0.mk (HO2.out.trans (Only.of_below hb3))
        have HR3 := Aside0.mk (Kd.R_below HR2.out hb3)
        have HP3 := Aside0.mk (HP2.out.only (b := 0) hb3)
        clear hw3 hb3 hn3 HO2 HR2 HP2
        refine Kd.R_append_rows (Kd.int .i64) (Rr := (Kd.int .i64).K w3) (w0 := w3) w.heap.size rfl (.tmp 25) (.tmp 27) 37 3 (.int .i64 0) 8 rfl Try.underlying37 infoI64 rfl (by decide) (by omega) (.slice A' i c') (numsS own i) [u1] _ _ _ (fun _ => True) (fun _ => False) rfl rfl HR3.out HN3.out (fun x cs h => h) (fun _ hk => hk.elim) (fun _ _ => trivial) (Below.refl _ _) HO3.out.size (by rw [numsS_len]; have := HI.out; simp; omega) ?_
        intro v4 w4 ho4 hb4 hg4 _
        have HO4 := Aside0.mk (show Only cb w w4 from only_trans' HO3.out hb4)
        have HP4 := Aside0.mk (pc_kept HP3.out (fun k cs t ht hk => (hg4.block k (blk_lt hk) (Kd.R_ne HR3.out hk (Ne.symm ht))).trans hk))
        have HQ4 := Aside0.mk (show Kd.R (Kd.int .i64) 3 w4 w.heap.size (fun _ => True) v4 (numsS own (i + 1)) by rw [HNQ.out]; exact ho4)
        clear ho4 hb4 hg4 HO3 HP3 HR3 HN3
        obtain ⟨A4, c4, rfl⟩ := Kd.R_slice HQ4.out
        have hl4 := numsS_len own (i + 1)
        rw [hl4] at HQ4 ⊢
        have hi9 : wrap64 ((i : Int) + 1) = ((i + 1 : Nat) : Int) := by have := HI.out; unfold wrap64; omega
        clear hl4
        go_wp2_with fail
        go_roundg (gk - 1)
        case measure => have := HI.out; have := HIL.out; omega
        case rel => exact ⟨i + 1, A4, c4, ⟨by have := HI.out; have := HIL.out; omega⟩, by first | rfl | (rw [hi9]; rfl) | go_num, rfl, HQ4, HP4, HO4⟩
      · have h2b : (u2 == 0) = false := by simpa using h2
        have hnp := HNP.out
        rw [if_pos h2] at hnp
        have HNQ := Aside0.mk (show numsS own (i + 1) = numsS own i ++ [-1] by rw [HYN.out, hnp])
        clear hnp HNP
        have HIL := Aside0.mk hi
        clear hi hlt
        go_wp2_with ((with_reducible refine gate_builtin (b := .append) (xs := #[.tmp 25, .tmp 27]) rfl ?_); at_builtin; refine Hid.out ?_)
        refine Lib.hid ?_
        obtain ⟨w3, hw3⟩ : ∃ w3, w3 = w2.alloc (.cells #[.int .i64 (-1)] 3) := ⟨_, rfl⟩
        have hb3 : Below w2.heap.size w2 w3 := by rw [hw3]; exact (Below.refl _ _).alloc (Nat.le_refl _) _
        have hn3 : w3.heap[w2.heap.size]? = some (.cells (([(-1)] : List Int).map (Value.int .i64)).toArray 3 (0, 0)) := by rw [hw3]; exact heap_alloc_new w2 _
        rw [← hw3]
        have HN3 := Aside0.mk (rowI hn3 (by simp))
        have HO3 := Aside0.mk (HO2.out.trans (Only.of_below hb3))
        have HR3 := Aside0.mk (Kd.R_below HR2.out hb3)
        have HP3 := Aside0.mk (HP2.out.only (b := 0) hb3)
        clear hw3 hb3 hn3 HO2 HR2 HP2
        refine Kd.R_append_rows (Kd.int .i64) (Rr := (Kd.int .i64).K w3) (w0 := w3) w.heap.size rfl (.tmp 25) (.tmp 27) 37 3 (.int .i64 0) 8 rfl Try.underlying37 infoI64 rfl (by decide) (by omega) (.slice A' i c') (numsS own i) [(-1)] _ _ _ (fun _ => True) (fun _ => False) rfl rfl HR3.out HN3.out (fun x cs h => h) (fun _ hk => hk.elim) (fun _ _ => trivial) (Below.refl _ _) HO3.out.size (by rw [numsS_len]; have := HI.out; simp; omega) ?_
        intro v4 w4 ho4 hb4 hg4 _
        have HO4 := Aside0.mk (show Only cb w w4 from only_trans' HO3.out hb4)
        have HP4 := Aside0.mk (pc_kept HP3.out (fun k cs t ht hk => (hg4.block k (blk_lt hk) (Kd.R_ne HR3.out hk (Ne.symm ht))).trans hk))
        have HQ4 := Aside0.mk (show Kd.R (Kd.int .i64) 3 w4 w.heap.size (fun _ => True) v4 (numsS own (i + 1)) by rw [HNQ.out]; exact ho4)
        clear ho4 hb4 hg4 HO3 HP3 HR3 HN3
        obtain ⟨A4, c4, rfl⟩ := Kd.R_slice HQ4.out
        have hl4 := numsS_len own (i + 1)
        rw [hl4] at HQ4 ⊢
        have hi9 : wrap64 ((i : Int) + 1) = ((i + 1 : Nat) : Int) := by have := HI.out; unfold wrap64; omega
        clear hl4
        go_wp2_with fail
        go_roundg (gk - 1)
        case measure => have := HI.out; have := HIL.out; omega
        case rel => exact ⟨i + 1, A4, c4, ⟨by have := HI.out; have := HIL.out; omega⟩, by first | rfl | (rw [hi9]; rfl) | go_num, rfl, HQ4, HP4, HO4⟩
    · have hi5 : i = 5 := by have := HI.out; omega
      subst hi5
      clear hi
      go_wp2_with fail
      go_ret
      exact ⟨A', c', rfl, HR.out, HP.out, HO.out⟩
end Sect
end Go.Proofs.Ytopfjmeejpamjaa
end
