/- Part 16 of the proof of ChainWrites: lemmas alone. -/
import Derived.Test.YtclneeamemofoaaGreatZChainWritesP13
import Derived.Test.YtclneeamemofoaaGreatZChainWritesP2
import Derived.Below
import Derived.Lib.Hide
import Derived.OwnWalk
import Derived.WalkKit
import Derived.KernelRfl
import Derived.RowKit3
import Derived.Deep.LoopGhost
import Derived.Deep.QuietTactic
import Derived.BigQuiet
import Derived.WideLaws
import Derived.Great.BuildSlice
import Derived.Outline
import Derived.Deep.DeepCutAuto
import Derived.WalkSpells
import Derived.RegionTactic
import Derived.BigRegion
import Derived.WalkLawsBesides
import Derived.IntWalk
import Derived.Deep.Slices
import Derived.Lib.AppendZerosOnto
import Derived.Test.YtclneeamemofoaaGreatZChainWritesP5
import Derived.Test.YtclneeamemofoaaGreatZChainWritesP12
import Derived.Test.YtclneeamemofoaaGreatZChainWritesP6
section
namespace Go.Proofs.YtclneeamemofoaaGreat
set_option linter.unusedVariables false
set_option linter.unusedSimpArgs false
open Go.RowKit Go.Proofs.YtclneeamemofoaaGreatW.PrintWords Go.Proofs.YtclneeamemofoaaGreatW.PrintLast Go.Proofs.YtclneeamemofoaaGreatW.PrintMore
namespace Cell
open Go.Num Go.Crc PCellGets PChain
theorem mid_C {w : World} {a : Addr} {l : List Int} (h : Kd.C (Kd.int .u8) w (some a) l.length l) (i m : Nat) (hi : i + m ≤ l.length) : Kd.C (Kd.int .u8) w (some (a.add i)) m ((l.drop i).take m) := by
  have hle : l.length ≤ 9223372036854775807 := h.2.1
  refine Kd.C_of_reads (enc := fun x => Value.int .u8 x) (d := (0:Int)) (h1 := fun _ => rfl) ⟨by rw [List.length_take, List.length_drop]; omega, by omega, fun _ => ⟨_, rfl, fun j hj => ?_⟩⟩
  obtain ⟨ad, e, hcell⟩ := Kd.at_int h ((i + j : Nat) : Int) (by omega) (by omega)
  cases e
  rw [Int.toNat_natCast] at hcell
  rw [Go.Deep.add_add, hcell]
  unfold rd
  rw [Int.toNat_natCast, List.getD_eq_getElem?_getD, List.getD_eq_getElem?_getD, List.getElem?_take_of_lt (by omega), List.getElem?_drop]
theorem take_C {w : World} {A : Option Addr} {l : List Int} (h : Kd.C (Kd.int .u8) w A l.length l) (m : Nat) (hm : m ≤ l.length) : Kd.C (Kd.int .u8) w A m (l.take m) := by
  obtain ⟨h0, h1, h2⟩ := h
  refine ⟨by rw [List.length_take]; omega, by omega, fun hp => ?_⟩
  obtain ⟨ad, ha, hc⟩ := h2 (by omega)
  refine ⟨ad, ha, fun j p hj => hc j p ?_⟩
  rw [List.getElem?_take] at hj
  split at hj
  · exact hj
  · cases hj
theorem drop_C {w : World} {a : Addr} {l : List Int} (h : Kd.C (Kd.int .u8) w (some a) l.length l) (i : Nat) (hi : i ≤ l.length) : Kd.C (Kd.int .u8) w (some (a.add i)) (l.length - i) (l.drop i) := by
  have := mid_C h i (l.length - i) (by omega)
  rw [List.take_of_length_le (by rw [List.length_drop]; omega)] at this
  exact this
theorem low_bits (s : Int) (h0 : 0 ≤ s) (h1 : s < 4294967296) : Go.bits .and .u32 s 65535 = s % 65536 := by
  obtain ⟨n, rfl⟩ := Int.eq_ofNat_of_zero_le h0
  rw [bits_and32, BitVec.toNat_and, b32_nat n (by omega)]
  show ((n &&& 65535 : Nat) : Int) = _
  rw [show (65535 : Nat) = 2 ^ 16 - 1 from rfl, Nat.and_two_pow_sub_one_eq_mod]
  omega
theorem leB_halves (s : Int) (h0 : 0 ≤ s) : leB (s % 65536) 2 ++ leB (s / 65536) 2 = leB s 4 := by
  rw [leB2_eq, leB2_eq, leB4_eq]
  simp only [List.cons_append, List.nil_append, List.cons.injEq, and_true]
  exact ⟨by omega, by omega, trivial, by omega⟩
theorem fix_small2 (n : Int) (h0 : 0 ≤ n) (h1 : n < 65536) : fixP n 2 = (leB n 2, 0) := by
  unfold fixP
  rw [if_neg (by rw [show (256 : Int) ^ ((2 : Int)).toNat = 65536 from by decide]; omega)]
  rfl
set_option maxHeartbeats 8000000 in
set_option maxRecDepth 100000 in
theorem tail_any (s : Int) (w : World) (h0 : 0 ≤ s) (h1 : s < 4294967296) :
    Calls Tryz.prog 75 #[.int .u32 s] w fun e w' => ∃ v, e = .returned v ∧ Kd.R (Kd.int .u8) 5 w' w.heap.size (fun _ => True) v (leB s 4) ∧ Below w.heap.size w w' := by
  have HLO := Aside0.mk (low_bits s h0 h1)
  have HH := Aside0.mk (leB_halves s h0)
  go_enter Tryz.func75, Tryz.ntmps75
  go_wp2_with fail
  rw [HLO.out, wid (s % 65536) (by omega) (by omega)]
  have hf1 := fix2_any (s % 65536) w (by omega)
  rw [fix_small2 (s % 65536) (by omega) (by omega)] at hf1
  refine hf1.mono ?_
  clear hf1
  rintro e w1 ⟨v1, rfl, hr1, b1⟩
  obtain ⟨A1, c1, rfl⟩ := Kd.R_slice hr1
  have HR1 := Aside0.mk hr1
  have HB1 := Aside0.mk b1
  rw [leB_len] at hr1 ⊢
  clear hr1 b1
  go_wp2_with fail
  try rw [wid (s / 65536) (by omega) (by omega)]
  have hf2 := fix2_any (s / 65536) w1 (by omega)
  rw [fix_small2 (s / 65536) (by omega) (by omega)] at hf2
  refine hf2.mono ?_
  clear hf2
  rintro e w2 ⟨v2, rfl, hr2, b2⟩
  obtain ⟨A2, c2, rfl⟩ := Kd.R_slice hr2
  have HC1 := Aside0.mk (Kd.C_below (row_at HR1.out) b2)
  have HC2 := Aside0.mk (row_at hr2)
  have HB2 := Aside0.mk (HB1.out.trans (b2.mono HB1.out.size))
  rw [leB_len]
  clear hr2 b2 HR1 HB1
  go_wp2_with fail
  obtain ⟨w3, hw3⟩ : ∃ w3, w3 = w2.alloc (.cells #[.slice A1 2 c1, .slice A2 2 c2] 39) := ⟨_, rfl⟩
  have hb3 : Below w2.heap.size w2 w3 := by rw [hw3]; exact (Below.refl _ _).alloc (Nat.le_refl _) _
  have hc3 : w3.heap[w2.heap.size]? = some (.cells #[.slice A1 2 c1, .slice A2 2 c2] 39 (0, 0)) := by rw [hw3]; exact heap_alloc_new w2 _
  rw [← hw3]
  have hcc := concat_any (w := w3) w2.heap.size A1 A2 c1 c2 (leB (s % 65536) 2) (leB (s / 65536) 2) (blk_lt hc3) (by rw [leB_len]; exact cell_blk hc3) (by rw [leB_len]; exact cell_blk hc3) (Kd.C_below HC1.out hb3) (Kd.C_below HC2.out hb3) (by rw [leB_len]; omega) (by rw [leB_len, leB_len]; omega)
  rw [HH.out] at hcc
  have HB3 := Aside0.mk (HB2.out.trans (hb3.mono HB2.out.size))
  clear hw3 hb3 hc3 HC1 HC2 HB2
  refine hcc.mono ?_
  clear hcc
  rintro e w4 ⟨v4, rfl, hr4, b4⟩
  have HR4 := Aside0.mk (Kd.R_lower hr4 HB3.out.size)
  have HB4 := Aside0.mk (HB3.out.trans (b4.mono HB3.out.size))
  clear hr4 b4
  go_wp2_with fail
  go_ret
  exact ⟨_, rfl, HR4.out, HB4.out⟩
set_option maxHeartbeats 8000000 in
set_option maxRecDepth 100000 in
theorem seal_any (A : Option Addr) (c : Nat) (l : List Int) (w : World) (hC : Kd.C (Kd.int .u8) w A l.length l) (hb : ∀ x ∈ l, 0 ≤ x ∧ x ≤ 255) (hl : l.length ≤ 900000) :
    Calls Tryz.prog 51 #[.slice A l.length c] w fun e w' => ∃ v, e = .returned v ∧ Kd.R (Kd.int .u8) 5 w' w.heap.size (fun _ => True) v (sealB l) ∧ Below w.heap.size w w' := by
  have HC := Aside0.mk hC
  have HBY := Aside0.mk hb
  have hr := sum_range l
  clear hC hb
  go_enter Tryz.func51, Tryz.ntmps51
  go_wp2_with fail
  refine (sum_any A c l w HC.out HBY.out (by omega)).mono ?_
  rintro e w1 ⟨rfl, rfl⟩
  go_wp2_with fail
  refine (tail_any (Crc.sum l) w1 hr.1 hr.2).mono ?_
  rintro e w2 ⟨v2, rfl, hr2, b2⟩
  obtain ⟨A2, c2, rfl⟩ := Kd.R_slice hr2
  have HC1 := Aside0.mk (Kd.C_below HC.out b2)
  have HC2 := Aside0.mk (row_at hr2)
  have HB2 := Aside0.mk b2
  rw [leB_len]
  clear hr2 b2 hr
  go_wp2_with fail
  obtain ⟨w3, hw3⟩ : ∃ w3, w3 = w2.alloc (.cells #[.slice A l.length c, .slice A2 4 c2] 39) := ⟨_, rfl⟩
  have hb3 : Below w2.heap.size w2 w3 := by rw [hw3]; exact (Below.refl _ _).alloc (Nat.le_refl _) _
  have hc3 : w3.heap[w2.heap.size]? = some (.cells #[.slice A l.length c, .slice A2 4 c2] 39 (0, 0)) := by rw [hw3]; exact heap_alloc_new w2 _
  rw [← hw3]
  have hcc := concat_any (w := w3) w2.heap.size A A2 c c2 l (leB (Crc.sum l) 4) (blk_lt hc3) (cell_blk hc3) (by rw [leB_len]; exact cell_blk hc3) (Kd.C_below HC1.out hb3) (Kd.C_below HC2.out hb3) (by rw [leB_len]; omega) (by rw [leB_len]; omega)
  have HB3 := Aside0.mk (HB2.out.trans (hb3.mono HB2.out.size))
  clear hw3 hb3 hc3 HC1 HC2 HB2
  refine hcc.mono ?_
  clear hcc
  rintro e w4 ⟨v4, rfl, hr4, b4⟩
  have HR4 := Aside0.mk (show Kd.R (Kd.int .u8) 5 w4 w1.heap.size (fun _ => True) v4 (sealB l) from Kd.R_lower hr4 HB3.out.size)
  have HB4 := Aside0.mk (HB3.out.trans (b4.mono HB3.out.size))
  clear hr4 b4
  go_wp2_with fail
  go_ret
  exact ⟨_, rfl, HR4.out, HB4.out⟩
def openP (l : List Int) : List Int × Int := if l.length < 4 ∨ l.drop (l.length - 4) ≠ leB (Crc.sum (l.take (l.length - 4))) 4 then ([], 12) else (l.take (l.length - 4), 0)
theorem eqN (a : Addr) (n c : Nat) (W : World) : (binOp BinOp.eql 39 (.slice (some a) n c) (.slice none 0 0)).run Tryz.prog W = .ok (.bool false) W := by
  kernel_rfl
set_option maxHeartbeats 8000000 in
set_option maxRecDepth 100000 in
theorem clone8 {w : World} (a : Addr) (c : Nat) (xs : List Int) (hC : Kd.C (Kd.int .u8) w (some a) xs.length xs) (hl : xs.length ≤ 262144) :
    Calls Tryz.prog 53 #[.slice (some a) xs.length c] w fun e w' => ∃ v, e = .returned v ∧ Kd.R (Kd.int .u8) 5 w' w.heap.size (fun _ => True) v xs ∧ Below w.heap.size w w' ∧ v ≠ .slice none 0 0 := by
  have HC := Aside0.mk hC
  clear hC
  have heq := eqN a xs.length c
  go_enter Tryz.func53, Tryz.ntmps53
  go_wp2_with ((with_reducible refine gate_builtin (b := .append) (xs := #[.tmp 5, .tmp 6]) rfl ?_); at_builtin; refine Hid.out ?_)
  refine Lib.hid ?_
  have HAL := Aside0.mk ((Below.refl w.heap.size w).alloc (Nat.le_refl _) (.cells #[] 5))
  refine Kd.R_append_rows (Kd.int .u8) (Rr := (Kd.int .u8).K (w.alloc (.cells #[] 5))) (w0 := w) w.heap.size rfl (.tmp 5) (.tmp 6) 39 5 (.int .u8 0) 1 rfl Tryz.underlying39 infoU8 rfl (by decide) (by omega) (.slice (some ⟨w.heap.size, 0, none⟩) 0 0) [] xs (some a) xs.length c (fun _ => True) (fun _ => False) rfl rfl ?aO ?aR (fun x cs h => h) (fun _ hk => hk.elim) (fun _ _ => trivial) HAL.out ?aS ?aL ?_
  case aO => exact ⟨fun _ _ => trivial, OwnRow.lit w w.heap.size (Reps.none _ _) (Nat.le_refl _) (by simp)⟩
  case aR => exact Kd.C_below HC.out HAL.out
  case aS => simp
  case aL => simp; omega
  intro v1 w1 ho hb hg hat
  have HO := Aside0.mk ho
  have HB := Aside0.mk hb
  have HAT := Aside0.mk hat
  clear ho hb hg hat
  go_wp2_with fail
  go_ret
  refine ⟨v1, rfl, by simpa using HO.out, HB.out, fun e => ?_⟩
  rcases HAT.out with h | ⟨b, h, _⟩
  · rw [e] at h; simp [Value.ownBlock] at h
  · rw [e] at h; simp [Value.ownBlock] at h
set_option maxHeartbeats 8000000 in
set_option maxRecDepth 100000 in
theorem open_any (A : Option Addr) (c : Nat) (l : List Int) (w : World) (hC : Kd.C (Kd.int .u8) w A l.length l) (hb : ∀ x ∈ l, 0 ≤ x ∧ x ≤ 255) (hl : l.length ≤ 200000) (hc : l.length ≤ c) :
    Calls Tryz.prog 80 #[.slice A l.length c] w fun e w' => ∃ v, e = .returned (.tuple #[v, .int .i64 (openP l).2]) ∧ Kd.R (Kd.int .u8) 5 w' w.heap.size (fun _ => True) v (openP l).1 ∧ Below w.heap.size w w' := by
  have HC := Aside0.mk hC
  have HBY := Aside0.mk hb
  clear hC hb
  by_cases h4 : l.length < 4
  · have ho : openP l = ([], 12) := by unfold openP; rw [if_pos (.inl h4)]
    rw [ho]
    clear ho
    have hneg : (l.length : Int) - 4 < 0 := by omega
    go_enter Tryz.func80, Tryz.ntmps80
    go_wp2_with fail
    refine Go.Rg.region (Below w.heap.size w) (fun x y => Below x.heap.size x y) (fun x => Below.refl _ x) (fun x y z h k => h.trans (k.mono h.size)) [.s, .s, .s, .s, .s, .s, .s, .s, .s, .v, .v, .v, .s, .s] (by kernel_rfl) (by kernel_rfl) (below_drew1 (Below.refl _ _)) (fun ne => ?_)
    refine Go.Rg.lex_q 9 _ _ _ _ _ (by rfl) ?_; simp only [List.take_succ_cons, List.take_zero, List.drop_succ_cons, List.drop_zero]; (repeat (go_big_quiet_step (rfl))); refine wpQuiet_nil ?_
    refine Go.Rg.step_v (fun K' hK => ?_)
    go_wp2_with fail
    refine hK.out _ _ (below_drew1 (Below.refl _ _)) (Below.refl _ _) ?_
    clear hK K'
    try simp only [Act.put, List.setIfInBounds_toArray, List.set_cons_succ, List.set_cons_zero]
    refine Go.Rg.step_v (fun K' hK => ?_)
    go_wp2_with fail
    refine hK.out _ _ (below_drew1 (Below.refl _ _)) (Below.refl _ _) ?_
    clear hK K'
    try simp only [Act.put, List.setIfInBounds_toArray, List.set_cons_succ, List.set_cons_zero]
    refine Go.Rg.step_v (fun K' hK => ?_)
    go_wp2_with fail
    refine hK.out _ _ (below_drew1 (Below.refl _ _)) (Below.refl _ _) ?_
    clear hK K'
    try simp only [Act.put, List.setIfInBounds_toArray, List.set_cons_succ, List.set_cons_zero]
    refine Go.Rg.lex_q 2 _ _ _ _ _ (by rfl) ?_; simp only [List.take_succ_cons, List.take_zero, List.drop_succ_cons, List.drop_zero]; (repeat (go_big_quiet_step (rfl))); refine wpQuiet_nil ?_
    refine Go.Rg.lex_nil ?_
    go_wp2_with fail
    go_ret2
    exact ⟨_, rfl, Kd.R_nil _ _ _ _ _, below_drew1 (Below.refl _ _)⟩
  · obtain ⟨a, rfl⟩ : ∃ a, A = some a := by obtain ⟨a, ha, _⟩ := HC.out.2.2 (by omega); exact ⟨a, ha⟩
    obtain ⟨n, hn⟩ : ∃ n : Nat, l.length = n + 4 := ⟨l.length - 4, by omega⟩
    have ho : openP l = if l.drop n ≠ leB (Crc.sum (l.take n)) 4 then ([], 12) else (l.take n, 0) := by
      unfold openP
      rw [show l.length - 4 = n by omega]
      by_cases hd : l.drop n ≠ leB (Crc.sum (l.take n)) 4
      · rw [if_pos (.inr hd), if_pos hd]
      · rw [if_neg (by intro h; rcases h with h | h; omega; exact hd h), if_neg hd]
    obtain ⟨R, hR⟩ : ∃ R, R = openP l := ⟨_, rfl⟩
    rw [← hR]
    have HRR := Aside0.mk (hR.trans ho)
    clear hR
    have HCD := Aside0.mk (show ∀ x, Below w.heap.size w x → Kd.C (Kd.int .u8) x (some (a.add n)) 4 (l.drop n) from fun x hx => by
      have := drop_C (Kd.C_below HC.out hx) n (by omega)
      rw [show l.length - n = 4 by omega] at this
      exact this)
    have HCT := Aside0.mk (show ∀ x, Below w.heap.size w x → Kd.C (Kd.int .u8) x (some a) n (l.take n) from fun x hx => take_C (Kd.C_below HC.out hx) n (by omega))
    have HTB := Aside0.mk (show ∀ x ∈ l.take n, 0 ≤ x ∧ x ≤ 255 from fun x hx => HBY.out x (List.mem_of_mem_take hx))
    have HDL := Aside0.mk (show (l.drop n).length = 4 by rw [List.length_drop]; omega)
    have HTL := Aside0.mk (show (l.take n).length = n by rw [List.length_take]; omega)
    rw [hn] at hl hc ⊢
    clear ho h4 hn
    obtain ⟨b, hbb⟩ : ∃ b : Bool, b = decide (l.drop n = leB (Crc.sum (l.take n)) 4) := ⟨_, rfl⟩
    have HBB := Aside0.mk hbb
    clear hbb
    have q1 : ((n + 4 : Nat) : Int) - 4 = n := by omega
    have q2 : decide ((n : Int) < 0) = false := decide_eq_false (by omega)
    have q3 : (n : Int) ≤ (n : Int) + 4 := by omega
    have q4 : (n : Int) + 4 ≤ c := by omega
    have q5 : (n : Int) ≤ c := by omega
    go_enter Tryz.func80, Tryz.ntmps80
    go_wp2_with fail
    refine Go.Rg.region (Below w.heap.size w) (fun x y => Below x.heap.size x y) (fun x => Below.refl _ x) (fun x y z h k => h.trans (k.mono h.size)) [.s, .s, .s, .s, .s, .s, .s, .s, .s, .w, .w, .w, .s, .s] (by kernel_rfl) (by kernel_rfl) (below_drew1 (Below.refl _ _)) (fun ne => ?_)
    refine Go.Rg.lex_q 9 _ _ _ _ _ (by rfl) ?_; simp only [List.take_succ_cons, List.take_zero, List.drop_succ_cons, List.drop_zero]; (repeat (go_big_quiet_step (rfl))); refine wpQuiet_nil ?_
    refine Go.Rg.step_w (by rfl) (fun K' hK => ?_)
    go_wp2_with fail
    have HB1 := Aside0.mk (below_drew1 (Below.refl w.heap.size w))
    have hs := sum_any (some a) c (l.take n) _ (by rw [HTL.out]; exact HCT.out _ HB1.out) HTB.out (by rw [HTL.out]; omega)
    rw [HTL.out] at hs
    refine hs.mono ?_
    clear hs
    rintro e w1 ⟨rfl, hw1⟩
    rw [← hw1] at HB1
    have HW1 := Aside0.mk hw1
    clear hw1
    go_wp2_with fail
    refine hK.out _ _ HB1.out (by rw [HW1.out]; exact Below.refl _ _) ?_
    clear hK K'
    try simp only [Act.put, List.setIfInBounds_toArray, List.set_cons_succ, List.set_cons_zero]
    refine Go.Rg.step_w (by rfl) (fun K' hK => ?_)
    go_wp2_with fail
    refine (tail_any (Crc.sum (l.take n)) w1 (sum_range _).1 (sum_range _).2).mono ?_
    rintro e w2 ⟨v2, rfl, hr2, b2⟩
    obtain ⟨A2, c2, rfl⟩ := Kd.R_slice hr2
    have HR2 := Aside0.mk hr2
    have HB2 := Aside0.mk (HB1.out.trans (b2.mono HB1.out.size))
    have HS2 := Aside0.mk b2
    have hc2 := (Kd.R_reads' hr2).2.1
    clear hr2 b2
    rw [leB_len] at hc2 ⊢
    go_wp2_with fail
    refine hK.out _ _ HB2.out HS2.out ?_
    clear hK K'
    try simp only [Act.put, List.setIfInBounds_toArray, List.set_cons_succ, List.set_cons_zero]
    refine Go.Rg.step_w (by rfl) (fun K' hK => ?_)
    go_wp2_with fail
    have heq := slices_Equal_byte_byte.calls (4 + (l.drop n).length + 1) (some (a.add n)) (c - n) (l.drop n) A2 c2 (leB (Crc.sum (l.take n)) 4) b w2 (by rw [HDL.out]; exact HCD.out _ HB2.out) (by rw [HDL.out]; omega) (row_at HR2.out) (by rw [leB_len]; exact hc2) (by rw [equal_plain _ _ 4 (by rw [HDL.out]; omega), HBB.out])
    rw [HDL.out, leB_len] at heq
    refine heq.mono ?_
    clear heq
    rintro e w3 ⟨rfl, hd3⟩
    have HB3 := Aside0.mk (HB2.out.trans (hd3.below.mono HB2.out.size))
    have HS3 := Aside0.mk hd3.below
    clear hd3
    go_wp2_with fail
    refine hK.out _ _ HB3.out HS3.out ?_
    clear hK K'
    try simp only [Act.put, List.setIfInBounds_toArray, List.set_cons_succ, List.set_cons_zero]
    refine Go.Rg.lex_q 2 _ _ _ _ _ (by rfl) ?_; simp only [List.take_succ_cons, List.take_zero, List.drop_succ_cons, List.drop_zero]; (repeat (go_big_quiet_step (rfl))); refine wpQuiet_nil ?_
    refine Go.Rg.lex_nil ?_
    cases b with
    | false =>
      go_wp2_with fail
      have hq : R = ([], 12) := by rw [HRR.out, if_pos (of_decide_eq_false HBB.out.symm)]
      go_ret2
      exact ⟨_, by rw [hq]; rfl, by rw [hq]; exact Kd.R_nil _ _ _ _ _, HB3.out⟩
    | true =>
      go_wp2_with fail
      have hcl := clone8 a c (l.take n) (by rw [HTL.out]; exact HCT.out _ HB3.out) (by rw [HTL.out]; omega)
      rw [HTL.out] at hcl
      refine hcl.mono ?_
      clear hcl
      rintro e w4 ⟨v4, rfl, hr4, b4, _⟩
      have HR4 := Aside0.mk (Kd.R_lower hr4 HB3.out.size)
      have HB4 := Aside0.mk (HB3.out.trans (b4.mono HB3.out.size))
      clear hr4 b4
      go_wp2_with fail
      have hq : R = (l.take n, 0) := by rw [HRR.out, if_neg (fun h => h (of_decide_eq_true HBB.out.symm))]
      go_ret2
      exact ⟨_, by rw [hq]; rfl, by rw [hq]; exact HR4.out, HB4.out⟩
end Cell
end Go.Proofs.YtclneeamemofoaaGreat
end
section
namespace Go.Proofs.YtclneeamemofoaaGreat
set_option linter.unusedVariables false
set_option linter.unusedSimpArgs false
open Go.RowKit Go.Proofs.YtclneeamemofoaaGreatW.PrintWords Go.Proofs.YtclneeamemofoaaGreatW.PrintLast Go.Proofs.YtclneeamemofoaaGreatW.PrintMore
namespace Cell
open Go.Num Go.Crc PCellGets PChain
theorem below_steps {x y z : World} (h : Below x.heap.size x y) (k : Below y.heap.size y z) : Below x.heap.size x z := h.trans (k.mono h.size)
end Cell
end Go.Proofs.YtclneeamemofoaaGreat
end
section
namespace Go.Proofs.YtclneeamemofoaaGreat
set_option linter.unusedVariables false
set_option linter.unusedSimpArgs false
open Go.RowKit Go.Proofs.YtclneeamemofoaaGreatW.PrintWords Go.Proofs.YtclneeamemofoaaGreatW.PrintLast Go.Proofs.YtclneeamemofoaaGreatW.PrintMore
namespace Cell
open Go.Num Go.Crc PCellGets PChain
def u8s (l : List Int) : List Value := l.map (Value.int .u8)
theorem u8s_len (l : List Int) : (u8s l).length = l.length := List.length_map _
structure Only (b : Nat) (w w' : World) : Prop where
  os : w'.os = w.os
  tape : w'.tape = w.tape
  output : w'.output = w.output
  size : w.heap.size ≤ w'.heap.size
  block : ∀ k, k < w.heap.size → k ≠ b → w'.heap[k]? = w.heap[k]?
theorem Only.trans {b : Nat} {x y z : World} (h : Only b x y) (k : Only b y z) : Only b x z :=
  ⟨k.os.trans h.os, k.tape.trans h.tape, k.output.trans h.output, Nat.le_trans h.size k.size, fun q hq hn => (k.block q (Nat.lt_of_lt_of_le hq h.size) hn).trans (h.block q hq hn)⟩
theorem Only.of_below {b : Nat} {x y : World} (h : Below x.heap.size x y) : Only b x y := ⟨h.os, h.tape, h.output, h.size, fun k hk _ => h.block k hk⟩
theorem Only.set (w : World) (b k : Nat) (v : Value) : Only b w (w.setCell ⟨b, k, none⟩ v) :=
  ⟨rfl, rfl, rfl, by simp [World.setCell], fun q _ hn => Below.heap_setCell _ _ _ _ hn⟩
theorem Only.below {b base : Nat} {x y : World} (h : Only b x y) (hb : base ≤ b) (hx : base ≤ x.heap.size) : Below base x y := ⟨h.os, h.tape, h.output, h.size, fun k hk => h.block k (by omega) (by omega)⟩
structure PCx (w : World) (base cb : Nat) (bs : List Int) (g off c : Nat) (all : List Int) (sp : List Value) : Prop where
  cbase : base ≤ cb
  cells : w.heap[cb]? = some (.cells #[.slice (some ⟨g, off, none⟩) bs.length c, .bool false] 154 (0, 0))
  row : w.heap[g]? = some (.cells (u8s all ++ sp).toArray 5 (0, 0))
  at_ : bs = all.drop off ∨ bs = []
  room : bs.length ≤ c
  few : bs.length ≤ 200000
def PC (w : World) (base cb : Nat) (bs : List Int) (bad : Bool) : Prop :=
  if bad then base ≤ cb ∧ bs = [] ∧ w.heap[cb]? = some (.cells #[.slice none 0 0, .bool true] 154 (0, 0)) else ∃ g off c all sp, PCx w base cb bs g off c all sp
theorem PCx.ne {w : World} {base cb g off c : Nat} {bs all : List Int} {sp : List Value} (h : PCx w base cb bs g off c all sp) : g ≠ cb := by
  rintro rfl
  have := h.cells.symm.trans h.row
  simp at this
theorem PCx.C {w : World} {base cb g off c : Nat} {bs all : List Int} {sp : List Value} (h : PCx w base cb bs g off c all sp) : Kd.C (Kd.int .u8) w (some ⟨g, off, none⟩) bs.length bs := by
  have hf := h.few
  refine Kd.C_of_reads (enc := fun x => Value.int .u8 x) (d := (0:Int)) (h1 := fun _ => rfl) ⟨rfl, by omega, fun _ => ⟨_, rfl, fun j hj => ?_⟩⟩
  rcases h.at_ with he | he
  · have hadd : (⟨g, off, none⟩ : Addr).add j = ⟨g, off + j, none⟩ := by unfold Addr.add; split <;> simp_all
    have hja : off + j < all.length := by rw [he, List.length_drop] at hj; omega
    rw [hadd, cell_blk h.row, List.getElem?_toArray, List.getElem?_append_left (by rw [u8s_len]; exact hja)]
    unfold u8s
    rw [List.getElem?_map, List.getD_eq_getElem?_getD, he, List.getElem?_drop, List.getElem?_eq_getElem hja]
    rfl
  · rw [he] at hj; simp at hj
theorem PC.only {w w' : World} {base cb b : Nat} {bs : List Int} {bad : Bool} (h : PC w base cb bs bad) (f : Below w.heap.size w w') : PC w' base cb bs bad := by
  unfold PC at *
  cases bad with
  | true => exact ⟨h.1, h.2.1, (f.block _ (blk_lt h.2.2)).trans h.2.2⟩
  | false =>
    obtain ⟨g, off, c, all, sp, h⟩ := h
    exact ⟨g, off, c, all, sp, h.cbase, (f.block _ (blk_lt h.cells)).trans h.cells, (f.block _ (blk_lt h.row)).trans h.row, h.at_, h.room, h.few⟩
set_option maxRecDepth 100000 in
theorem bad_any {w : World} {base cb : Nat} {bs : List Int} {bad : Bool} (h : PC w base cb bs bad) :
    Calls Tryz.prog 84 #[.pointer (some ⟨cb, 0, none⟩)] w fun e w' => e = .returned (.bool bad) ∧ w' = w := by
  have c1 : w.cell? ⟨cb, 1, none⟩ = some (.bool bad) := by
    unfold PC at h
    cases bad with
    | true => exact cell_blk h.2.2
    | false => obtain ⟨_, _, _, _, _, h⟩ := h; exact cell_blk h.cells
  clear h
  go_enter Tryz.func84, Tryz.ntmps84
  go_wp2_with fail
  go_ret
  exact ⟨rfl, rfl⟩
set_option maxHeartbeats 8000000 in
set_option maxRecDepth 100000 in
theorem fail_any {w : World} {base cb : Nat} {bs : List Int} {bad : Bool} (h : PC w base cb bs bad) :
    Calls Tryz.prog 92 #[.pointer (some ⟨cb, 0, none⟩)] w fun e w' => (∃ v, e = .returned v) ∧ PC w' base cb [] true ∧ Only cb w w' := by
  obtain ⟨v0, v1, hc, hb, one⟩ : ∃ v0 v1, w.heap[cb]? = some (.cells #[v0, v1] 154 (0, 0)) ∧ base ≤ cb ∧ v0.oneCell' = true := by
    unfold PC at h
    cases bad with
    | true => exact ⟨_, _, h.2.2, h.1, rfl⟩
    | false => obtain ⟨_, _, _, _, _, h⟩ := h; exact ⟨_, _, h.cells, h.cbase, rfl⟩
  have c0 : w.cell? ⟨cb, 0, none⟩ = some v0 := cell_blk hc
  have f0 : w.frozen? ⟨cb, 0, none⟩ = false := frozen_blk hc
  have c1 : w.cell? ⟨cb, 1, none⟩ = some v1 := cell_blk hc
  have f1 : w.frozen? ⟨cb, 1, none⟩ = false := frozen_blk hc
  have HC := Aside0.mk hc
  have HB := Aside0.mk hb
  clear h hc hb
  go_enter Tryz.func92, Tryz.ntmps92
  go_wp2_with fail
  go_end0
  refine ⟨⟨_, rfl⟩, ⟨HB.out, rfl, ?_⟩, (Only.set _ _ _ _).trans (Only.set _ _ _ _)⟩
  rw [blk_set (blk_set HC.out 0 _) 1 _]
  rfl
set_option maxHeartbeats 8000000 in
set_option maxRecDepth 100000 in
theorem from_any {w : World} (a : Addr) (c : Nat) (l : List Int) (hC : Kd.C (Kd.int .u8) w (some a) l.length l) (hl : l.length ≤ 200000) :
    Calls Tryz.prog 81 #[.slice (some a) l.length c] w fun e w' => ∃ cb, e = .returned (.pointer (some ⟨cb, 0, none⟩)) ∧ PC w' w.heap.size cb l false ∧ Below w.heap.size w w' := by
  have HC := Aside0.mk hC
  clear hC
  go_enter Tryz.func81, Tryz.ntmps81
  go_wp2_with fail
  refine (clone8 a c l HC.out (by omega)).mono ?_
  rintro e w1 ⟨v, rfl, hr, b1, hv⟩
  obtain ⟨_, ho⟩ := Kd.own_of_R hr
  rcases ho with ⟨hv', _⟩ | ⟨g, cap, cur, rfl, hbase, hb, hn, hmx, hcs, hcur⟩
  · exact absurd hv' hv
  have hrow : w1.heap[g]? = some (.cells (u8s l ++ cur.toList.drop l.length).toArray 5 (0, 0)) := by
    rw [hb]
    have e : u8s l = cur.toList.take l.length := by rw [Nat.mul_one] at hcur; exact hcur.symm
    rw [e, List.take_append_drop]
  have HB1 := Aside0.mk b1
  have HROW := Aside0.mk hrow
  have HN := Aside0.mk hn
  clear hr b1 hv hb hcs hcur hrow hbase
  go_wp2_with fail
  go_ret
  have hx : (w1.alloc (.cells #[.slice (some ⟨g, 0, none⟩) l.length cap, .bool false] 154)).heap[w1.heap.size]? = some (.cells #[.slice (some ⟨g, 0, none⟩) l.length cap, .bool false] 154 (0, 0)) := heap_alloc_new w1 _
  have hb2 : Below w1.heap.size w1 (w1.alloc (.cells #[.slice (some ⟨g, 0, none⟩) l.length cap, .bool false] 154)) := (Below.refl _ _).alloc (Nat.le_refl _) _
  exact ⟨w1.heap.size, rfl, ⟨g, 0, cap, l, _, HB1.out.size, hx, (hb2.block _ (blk_lt HROW.out)).trans HROW.out, .inl rfl, HN.out, hl⟩, HB1.out.trans (hb2.mono HB1.out.size)⟩
def takeOk (bs : List Int) (bad : Bool) (n : Int) : Bool := !bad && (decide (0 ≤ n) && decide (n ≤ bs.length))
set_option maxHeartbeats 8000000 in
set_option maxRecDepth 100000 in
theorem take_no {w : World} {base cb : Nat} {bs : List Int} {bad : Bool} (h : PC w base cb bs bad) (n : Int) (hk : takeOk bs bad n = false) :
    Calls Tryz.prog 83 #[.pointer (some ⟨cb, 0, none⟩), .int .i64 n] w fun e w' => e = .returned (.slice none 0 0) ∧ PC w' base cb [] true ∧ Only cb w w' := by
  have HP := Aside0.mk h
  cases bad with
  | true =>
    clear h hk
    go_enter Tryz.func83, Tryz.ntmps83
    go_wp2_with fail
    refine (bad_any HP.out).mono ?_
    rintro e w1 ⟨rfl, rfl⟩
    go_wp2_with fail
    refine (fail_any HP.out).mono ?_
    rintro e w2 ⟨⟨v, rfl⟩, p, o⟩
    have HP2 := Aside0.mk p
    have HO2 := Aside0.mk o
    clear p o
    go_wp2_with fail
    go_ret
    exact ⟨rfl, HP2.out, HO2.out⟩
  | false =>
    obtain ⟨g, off, c, all, sp, hx⟩ := h
    have c0 : w.cell? ⟨cb, 0, none⟩ = some (.slice (some ⟨g, off, none⟩) bs.length c) := cell_blk hx.cells
    clear hx
    have hk' : n < 0 ∨ (bs.length : Int) < n := by
      unfold takeOk at hk
      simp at hk
      omega
    clear hk
    by_cases hn : n < 0
    · clear hk'
      go_enter Tryz.func83, Tryz.ntmps83
      go_wp2_with fail
      refine (bad_any HP.out).mono ?_
      rintro e w1 ⟨rfl, rfl⟩
      go_wp2_with fail
      refine (fail_any HP.out).mono ?_
      rintro e w2 ⟨⟨v, rfl⟩, p, o⟩
      have HP2 := Aside0.mk p
      have HO2 := Aside0.mk o
      clear p o c0
      go_wp2_with fail
      go_ret
      exact ⟨rfl, HP2.out, HO2.out⟩
    · have hgt : (bs.length : Int) < n := by omega
      clear hk'
      go_enter Tryz.func83, Tryz.ntmps83
      go_wp2_with fail
      refine (bad_any HP.out).mono ?_
      rintro e w1 ⟨rfl, rfl⟩
      go_wp2_with fail
      refine (fail_any HP.out).mono ?_
      rintro e w2 ⟨⟨v, rfl⟩, p, o⟩
      have HP2 := Aside0.mk p
      have HO2 := Aside0.mk o
      clear p o c0
      go_wp2_with fail
      go_ret
      exact ⟨rfl, HP2.out, HO2.out⟩
theorem copy8 {w : World} {g : Nat} (a : Addr) (n sl sc : Nat) (P : List Int) (hb : w.heap[g]? = some (.cells (u8s (List.replicate n 0)).toArray 5 (0, 0))) (hP : P.length = n) (hn : n ≤ sl) (hs : ∀ j, j < P.length → w.cell? (a.add j) = some (.int .u8 (P.getD j 0))) :
    ∃ w', (Builtin.copy_ #[39, 39] 3 #[.slice (some ⟨g, 0, none⟩) n n, .slice (some a) sl sc]).run Tryz.prog w = .ok (.int .i64 (n : Int)) w' ∧ w'.heap[g]? = some (.cells (u8s P).toArray 5 (0, 0)) ∧ Only g w w' := by
  have hsz : ∀ j, j < P.length → 0 + j < (u8s (List.replicate n 0)).toArray.size := fun j hj => by rw [List.size_toArray, u8s_len, List.length_replicate]; omega
  have hr := run_copy_cells (P := Tryz.prog) w 39 39 3 5 g 0 n n a sl sc (u8s P) Tryz.underlying39 (by kernel_rfl) (by rw [u8s_len, hP]; show n = min sl n; omega) (fun j v hv => ?_) (fun j hj => ?_) (fun j hj => ?_) (fun v hv => ?_)
  · refine ⟨w.setCells g 0 (u8s P), ?_, ?_, ?_⟩
    · rw [u8s_len, hP] at hr
      exact hr
    · obtain ⟨cur', h1, h2, h3⟩ := setCells_row (u8s P) 0 w (u8s (List.replicate n 0)).toArray hb (by rw [List.size_toArray, u8s_len, u8s_len, List.length_replicate]; omega)
      rw [h1]
      have : cur' = (u8s P).toArray := by
        apply Array.ext'
        rw [h3]
        simp only [List.take_zero, List.nil_append, Nat.zero_add]
        rw [List.drop_eq_nil_of_le (by rw [u8s_len, u8s_len, List.length_replicate]; omega), List.append_nil]
      rw [this]
    · obtain ⟨s1, s2, s3, s4⟩ := setCells_same g (u8s P) 0 w
      exact ⟨s1, s2, s3, by rw [s4]; exact Nat.le_refl _, fun k _ hk => setCells_far _ _ _ hk⟩
  · have hjl : j < P.length := by
      rcases Nat.lt_or_ge j P.length with h | h
      · exact h
      · rw [List.getElem?_eq_none (by rw [u8s_len]; exact h)] at hv; cases hv
    have e : v = .int .u8 (P.getD j 0) := by
      unfold u8s at hv
      rw [List.getElem?_map, List.getElem?_eq_getElem hjl] at hv
      simp at hv
      rw [← hv]
      simp [hjl]
    rw [e]
    exact hs j hjl
  · rw [cell_blk hb, Array.getElem?_eq_getElem (hsz j (by rw [u8s_len] at hj; exact hj))]
    rfl
  · exact frozen_blk hb
  · unfold u8s at hv
    obtain ⟨x, _, rfl⟩ := List.mem_map.1 hv
    rfl
set_option maxHeartbeats 8000000 in
set_option maxRecDepth 100000 in
theorem take_yes {w : World} {base cb : Nat} {bs : List Int} (h : PC w base cb bs false) (n : Nat) (hk : n ≤ bs.length) :
    Calls Tryz.prog 83 #[.pointer (some ⟨cb, 0, none⟩), .int .i64 n] w fun e w' => ∃ v, e = .returned v ∧ Kd.R (Kd.int .u8) 5 w' w.heap.size (fun _ => True) v (bs.take n) ∧ PC w' base cb (bs.drop n) false ∧ Only cb w w' := by
  have HP := Aside0.mk h
  obtain ⟨g, off, c, all, sp, hx⟩ := h
  have c0 : w.cell? ⟨cb, 0, none⟩ = some (.slice (some ⟨g, off, none⟩) bs.length c) := cell_blk hx.cells
  have hfew := hx.few
  have hroom := hx.room
  have hcl : cb < w.heap.size := blk_lt hx.cells
  have HX := Aside0.mk hx
  have hmk : ∀ W : World, (Instr.makeSlice 39 (.int .i64 (n : Int)) (.int .i64 (n : Int))).run Tryz.prog W = .ok (.slice (some ⟨W.heap.size, 0, none⟩) n n) (W.alloc (.cells (u8s (List.replicate n 0)).toArray 5)) := fun W => by
    have := make8 n (by omega) W
    rw [made8] at this
    exact this
  have hn0 : decide ((n : Int) < 0) = false := decide_eq_false (by omega)
  have hn1 : decide (bs.length < n) = false := decide_eq_false (by omega)
  obtain ⟨W, hW⟩ : ∃ W, W = w.alloc (.cells (u8s (List.replicate n 0)).toArray 5) := ⟨_, rfl⟩
  have hbW : Below w.heap.size w W := by rw [hW]; exact (Below.refl _ _).alloc (Nat.le_refl _) _
  have hnew : W.heap[w.heap.size]? = some (.cells (u8s (List.replicate n 0)).toArray 5 (0, 0)) := by rw [hW]; exact heap_alloc_new w _
  have htl : (bs.take n).length = n := by rw [List.length_take]; omega
  obtain ⟨w2, hcp, hrow2, ho2⟩ := copy8 (w := W) ⟨g, off, none⟩ n bs.length c (bs.take n) hnew htl hk (fun j hj => by
    obtain ⟨ad, e, hcell⟩ := Kd.at_int (Kd.C_below hx.C hbW) (j : Int) (by omega) (by omega)
    cases e
    rw [Int.toNat_natCast] at hcell
    rw [hcell]
    unfold rd
    rw [Int.toNat_natCast, List.getD_eq_getElem?_getD, List.getD_eq_getElem?_getD, List.getElem?_take_of_lt (by omega)])
  have hO : ∀ k, k < w.heap.size → w2.heap[k]? = w.heap[k]? := fun k hk' => (ho2.block k (Nat.lt_of_lt_of_le hk' hbW.size) (by omega)).trans (hbW.block k hk')
  have hB2 : Below w.heap.size w w2 := ⟨ho2.os.trans hbW.os, ho2.tape.trans hbW.tape, ho2.output.trans hbW.output, Nat.le_trans hbW.size ho2.size, hO⟩
  have hcells2 := (hO cb hcl).trans hx.cells
  have d0 : w2.cell? ⟨cb, 0, none⟩ = some (.slice (some ⟨g, off, none⟩) bs.length c) := cell_blk hcells2
  have g0 : w2.frozen? ⟨cb, 0, none⟩ = false := frozen_blk hcells2
  have HC2 := Aside0.mk hcells2
  have HR2 := Aside0.mk ((hO g (blk_lt hx.row)).trans hx.row)
  have HB2 := Aside0.mk hB2
  have HNEW := Aside0.mk hrow2
  have HTL := Aside0.mk htl
  have HNE := Aside0.mk (show w.heap.size ≠ cb by omega)
  rw [hW] at hcp
  clear hx hbW hnew htl hrow2 ho2 hO hB2 hcells2 hW HP
  have fin : ∀ (A' : Addr) (c' : Nat), (A' = ⟨g, off + n, none⟩ ∨ (A' = ⟨g, off, none⟩ ∧ bs.length = n)) → bs.length - n ≤ c' → Kd.R (Kd.int .u8) 5 (w2.setCell ⟨cb, 0, none⟩ (.slice (some A') (bs.length - n) c')) w.heap.size (fun _ => True) (.slice (some ⟨w.heap.size, 0, none⟩) n n) (bs.take n) ∧ PC (w2.setCell ⟨cb, 0, none⟩ (.slice (some A') (bs.length - n) c')) base cb (bs.drop n) false ∧ Only cb w (w2.setCell ⟨cb, 0, none⟩ (.slice (some A') (bs.length - n) c')) := fun A' c' hA hc' => by
    have hs := blk_set HC2.out 0 (.slice (some A') (bs.length - n) c')
    have hne := HX.out.ne
    refine ⟨?_, ?_, (Only.of_below HB2.out).trans (Only.set _ _ _ _)⟩
    · have hr : (w2.setCell ⟨cb, 0, none⟩ (.slice (some A') (bs.length - n) c')).heap[w.heap.size]? = some (.cells ((bs.take n).map (Value.int .u8) ++ []).toArray 5 (0, 0)) := by
        rw [Below.heap_setCell _ _ _ _ HNE.out, List.append_nil]
        exact HNEW.out
      have := row_of (base := w.heap.size) (ok := fun _ => True) hr (Nat.le_refl _) trivial (cap := n) (by rw [HTL.out]; rfl) (by omega)
      rw [HTL.out] at this
      exact this
    · have hdl : (bs.drop n).length = bs.length - n := List.length_drop
      have hat : bs.drop n = all.drop (off + n) ∨ bs.drop n = [] := by
        rcases HX.out.at_ with he | he
        · left; rw [he, List.drop_drop]
        · right; rw [he, List.drop_nil]
      have hrow : (w2.setCell ⟨cb, 0, none⟩ (.slice (some A') (bs.length - n) c')).heap[g]? = some (.cells (u8s all ++ sp).toArray 5 (0, 0)) := by rw [Below.heap_setCell _ _ _ _ hne]; exact HR2.out
      rcases hA with rfl | ⟨rfl, hl⟩
      · exact ⟨g, off + n, c', all, sp, HX.out.cbase, by rw [hs, hdl]; rfl, hrow, hat, by rw [hdl]; exact hc', by rw [hdl]; omega⟩
      · exact ⟨g, off, c', all, sp, HX.out.cbase, by rw [hs, hdl]; rfl, hrow, .inr (List.drop_eq_nil_of_le (by omega)), by rw [hdl]; exact hc', by rw [hdl]; omega⟩
  have HFIN := Aside0.mk fin
  clear fin
  by_cases hcn : c = n
  · have HBN := Aside0.mk (show bs.length = n by omega)
    subst hcn
    go_enter Tryz.func83, Tryz.ntmps83
    go_wp2_with fail
    refine (bad_any (w := w) (base := base) (bs := bs) (bad := false) ⟨g, off, c, all, sp, HX.out⟩).mono ?_
    rintro e w1 ⟨rfl, hw1⟩
    obtain rfl : w1 = w := hw1
    go_wp2_with fail
    go_ret
    have hf := HFIN.out ⟨g, off, none⟩ 0 (.inr ⟨rfl, HBN.out⟩) (by have := HBN.out; omega)
    rw [show bs.length - c = 0 by have := HBN.out; omega] at hf
    exact ⟨_, rfl, hf⟩
  · go_enter Tryz.func83, Tryz.ntmps83
    go_wp2_with fail
    refine (bad_any (w := w) (base := base) (bs := bs) (bad := false) ⟨g, off, c, all, sp, HX.out⟩).mono ?_
    rintro e w1 ⟨rfl, hw1⟩
    obtain rfl : w1 = w := hw1
    go_wp2_with fail
    go_ret
    exact ⟨_, rfl, HFIN.out _ _ (.inl rfl) (by omega)⟩
set_option maxRecDepth 100000 in
theorem left_any {w : World} {base cb : Nat} {bs : List Int} (h : PC w base cb bs false) :
    Calls Tryz.prog 86 #[.pointer (some ⟨cb, 0, none⟩)] w fun e w' => e = .returned (.int .i64 (bs.length : Int)) ∧ w' = w := by
  have HP := Aside0.mk h
  obtain ⟨g, off, c, all, sp, hx⟩ := h
  have c0 : w.cell? ⟨cb, 0, none⟩ = some (.slice (some ⟨g, off, none⟩) bs.length c) := cell_blk hx.cells
  clear hx
  go_enter Tryz.func86, Tryz.ntmps86
  go_wp2_with fail
  refine (bad_any HP.out).mono ?_
  rintro e w1 ⟨rfl, rfl⟩
  go_wp2_with fail
  go_ret
  exact ⟨rfl, rfl⟩
def maxL : List Int → Int
  | [] => 0
  | x :: l => max x (maxL l)
theorem maxL_snoc (l : List Int) (x : Int) (hx : 0 ≤ x) : maxL (l ++ [x]) = max (maxL l) x := by
  induction l with
  | nil => simp [maxL]; omega
  | cons y l ih => simp only [List.cons_append, maxL, ih]; omega
theorem maxL_range (l : List Int) (h : ∀ x ∈ l, 0 ≤ x ∧ x ≤ 255) : 0 ≤ maxL l ∧ maxL l ≤ 255 := by
  induction l with
  | nil => simp [maxL]
  | cons y l ih =>
    have h1 := h y List.mem_cons_self
    have h2 := ih (fun z hz => h z (List.mem_cons_of_mem _ hz))
    simp only [maxL]
    omega
set_option maxHeartbeats 8000000 in
set_option maxRecDepth 100000 in
theorem max_any {w : World} (A : Option Addr) (c : Nat) (l : List Int) (hC : Kd.C (Kd.int .u8) w A l.length l) (hb : ∀ x ∈ l, 0 ≤ x ∧ x ≤ 255) (h0 : 0 < l.length) (hl : l.length ≤ 200000) :
    Calls Tryz.prog 85 #[.slice A l.length c] w fun e w' => e = .returned (.int .u8 (maxL l)) ∧ w' = w := by
  have HC := Aside0.mk hC
  have HBY := Aside0.mk hb
  obtain ⟨a, rfl, hcell⟩ := Kd.at_int hC 0 (by omega) (by omega)
  have hz : a.add (0 : Int).toNat = a := by unfold Addr.add; simp
  rw [hz] at hcell
  have hm1 : maxL (l.take 1) = rd l 0 := by
    match l, h0 with
    | x :: l, _ =>
      have := hb x List.mem_cons_self
      simp [maxL, rd]
      omega
  obtain ⟨x0, hx0⟩ : ∃ x, x = rd l 0 := ⟨_, rfl⟩
  rw [← hx0] at hcell hm1
  have HM1 := Aside0.mk hm1
  have hlt : (0 : Int) < l.length := by omega
  clear hC hb hm1 hx0 hz
  go_enter Tryz.func85, Tryz.ntmps85
  go_wp2_with fail
  go_loopg [4, 3] (l.length - 1) (fun g v4 v3 wr => ∃ (i : Nat) (x : Int), Aside0 (i + g = l.length ∧ 1 ≤ i) ∧ v4 = .int .i64 i ∧ v3 = .int .u8 x ∧ Aside0 (x = maxL (l.take i)) ∧ Aside0 (wr = w))
  case atStart => exact ⟨1, x0, ⟨by omega⟩, rfl, rfl, ⟨HM1.out.symm⟩, ⟨rfl⟩⟩
  case round =>
    obtain ⟨i, x, HI, rfl, rfl, HX, HW⟩ := hrel
    by_cases hi : i < l.length
    · obtain ⟨ad, e, hc2⟩ := Kd.at_int HC.out (i : Int) (by omega) (by omega)
      cases e
      rw [← HW.out, Int.toNat_natCast] at hc2
      have hyb := rd_byte HBY.out i
      have hxb := maxL_range (l.take i) (fun z hz => HBY.out z (List.mem_of_mem_take hz))
      rw [← HX.out] at hxb
      have HNX := Aside0.mk (show maxL (l.take (i + 1)) = max x (rd l (i : Int)) by
        rw [List.take_succ_eq_append_getElem hi, maxL_snoc _ _ (HBY.out _ (List.getElem_mem hi)).1, rd_get i hi, HX.out])
      obtain ⟨y, hy⟩ : ∃ y, y = rd l (i : Int) := ⟨_, rfl⟩
      rw [← hy] at hc2 hyb HNX
      obtain ⟨hy0, hy1⟩ := hyb
      obtain ⟨hx0, hx1⟩ := hxb
      clear hy
      by_cases hlt2 : x < y
      · have hmx : max x y = y := by omega
        rw [hmx] at HNX
        go_wp2_with fail
        go_roundg (gk - 1)
        case measure => have := HI.out; omega
        case rel => exact ⟨i + 1, y, ⟨by have := HI.out; omega⟩, by go_num, by simp [hmx], ⟨HNX.out.symm⟩, HW⟩
      · have hmx : max x y = x := by omega
        rw [hmx] at HNX
        go_wp2_with fail
        go_roundg (gk - 1)
        case measure => have := HI.out; omega
        case rel => exact ⟨i + 1, x, ⟨by have := HI.out; omega⟩, by go_num, by simp [hmx], ⟨HNX.out.symm⟩, HW⟩
    · have hin : i = l.length := by have := HI.out; omega
      subst hin
      rw [List.take_length] at HX
      go_wp2_with fail
      go_ret
      exact ⟨by rw [← HX.out]; rfl, HW.out⟩
end Cell
end Go.Proofs.YtclneeamemofoaaGreat
end
section
namespace Go.Proofs.YtclneeamemofoaaGreat
set_option linter.unusedVariables false
set_option linter.unusedSimpArgs false
open Go.RowKit Go.Proofs.YtclneeamemofoaaGreatW.PrintWords Go.Proofs.YtclneeamemofoaaGreatW.PrintLast Go.Proofs.YtclneeamemofoaaGreatW.PrintMore
namespace Cell
open Go.Num Go.Crc PCellGets PChain
def cellOk (o n x : Int) (d : List Int) : Bool := decide (1 ≤ o ∧ o ≤ 2147483647 ∧ 0 ≤ n ∧ n ≤ 65535 ∧ 0 ≤ x ∧ x ≤ 65535 ∧ 1 ≤ d.length ∧ d.length ≤ 242)
theorem short_plain (n : Int) : cell_short.f n = some (decide (0 ≤ n ∧ n ≤ 65535)) := by
  unfold cell_short.f
  by_cases h : n ≥ 0
  · rw [if_pos h]; congr 1; exact decide_eq_decide.2 (by omega)
  · rw [if_neg h]; congr 1; exact (decide_eq_false (by omega)).symm
theorem may_plain (o n x : Int) (d : List Int) : cell_may.f o n x d = some (cellOk o n x d) := by
  unfold cell_may.f cellOk
  rw [short_plain, short_plain]
  simp only [Option.bind_some]
  by_cases h1 : o ≥ 1
  · rw [if_pos h1]
    by_cases h2 : o ≤ 2147483647
    · rw [if_pos h2]
      by_cases h3 : 0 ≤ n ∧ n ≤ 65535
      · rw [if_pos (by simpa using h3)]
        by_cases h4 : 0 ≤ x ∧ x ≤ 65535
        · rw [if_pos (by simpa using h4)]
          by_cases h5 : (d.length : Int) ≥ 1
          · rw [if_pos h5]; congr 1; exact decide_eq_decide.2 (by omega)
          · rw [if_neg h5]; congr 1; exact (decide_eq_false (by omega)).symm
        · rw [if_neg (by simpa using h4)]; congr 1; exact (decide_eq_false (by omega)).symm
      · rw [if_neg (by simpa using h3)]; congr 1; exact (decide_eq_false (by omega)).symm
    · rw [if_neg h2]; congr 1; exact (decide_eq_false (by omega)).symm
  · rw [if_neg h1]; congr 1; exact (decide_eq_false (by omega)).symm
def headC (o n x : Int) (d : List Int) (i : Nat) : List Int := leB o 4 ++ ((if 1 ≤ i then leB n 2 else []) ++ ((if 2 ≤ i then leB x 2 else []) ++ (if 3 ≤ i then leB (d.length : Int) 2 else [])))
theorem headC_len (o n x : Int) (d : List Int) (i : Nat) (hi : i ≤ 3) : (headC o n x d i).length = 4 + 2 * i := by
  unfold headC
  rcases (show i = 0 ∨ i = 1 ∨ i = 2 ∨ i = 3 by omega) with rfl | rfl | rfl | rfl <;> simp [leB_len]
theorem headC1 (o n x : Int) (d : List Int) : headC o n x d 0 ++ leB n 2 = headC o n x d 1 := by simp [headC]
theorem headC2 (o n x : Int) (d : List Int) : headC o n x d 1 ++ leB x 2 = headC o n x d 2 := by simp [headC]
theorem headC3 (o n x : Int) (d : List Int) : headC o n x d 2 ++ leB (d.length : Int) 2 = headC o n x d 3 := by simp [headC]
def bodyC (o n x : Int) (d : List Int) : List Int := (headC o n x d 3 ++ d) ++ List.replicate (242 - d.length) 0
theorem bodyC_len (o n x : Int) (d : List Int) (hd : d.length ≤ 242) : (bodyC o n x d).length = 252 := by
  unfold bodyC
  rw [List.length_append, List.length_append, headC_len _ _ _ _ 3 (by omega), List.length_replicate]
  omega
theorem headC_byte (o n x : Int) (d : List Int) (i : Nat) : ∀ y ∈ headC o n x d i, 0 ≤ y ∧ y ≤ 255 := by
  intro y hy
  unfold headC at hy
  have key : ∀ (p : Prop) [Decidable p] (m : Int) (k : Nat), y ∈ (if p then leB m k else []) → 0 ≤ y ∧ y ≤ 255 := fun p _ m k h => by
    split at h
    · exact leB_byte _ _ y h
    · cases h
  rcases List.mem_append.1 hy with h | h
  · exact leB_byte _ _ y h
  rcases List.mem_append.1 h with h | h
  · exact key _ _ _ h
  rcases List.mem_append.1 h with h | h
  · exact key _ _ _ h
  · exact key _ _ _ h
theorem bodyC_byte (o n x : Int) (d : List Int) (hb : ∀ y ∈ d, 0 ≤ y ∧ y ≤ 255) : ∀ y ∈ bodyC o n x d, 0 ≤ y ∧ y ≤ 255 := by
  intro y hy
  unfold bodyC at hy
  rcases List.mem_append.1 hy with h | h
  · rcases List.mem_append.1 h with h | h
    · exact headC_byte _ _ _ _ _ y h
    · exact hb y h
  · rw [(List.mem_replicate.1 h).2]; omega
def putP (o n x : Int) (d : List Int) : List Int × Int := if cellOk o n x d = true then (sealB (bodyC o n x d), 0) else ([], 1)
theorem fix_ok4 (n : Int) (h : 0 ≤ n ∧ n ≤ 2147483647) : fixP n 4 = (leB n 4, 0) := by
  unfold fixP
  rw [if_neg (by rw [show (256 : Int) ^ ((4 : Int)).toNat = 4294967296 from by decide]; omega)]
  rfl
set_option maxHeartbeats 8000000 in
set_option maxRecDepth 100000 in
theorem put_any {w : World} (o n x : Int) (A : Option Addr) (c : Nat) (d : List Int) (hC : Kd.C (Kd.int .u8) w A d.length d) (hc : d.length ≤ c) (hb : ∀ y ∈ d, 0 ≤ y ∧ y ≤ 255) :
    Calls Tryz.prog 22 #[.agg #[.int .i64 o, .int .i64 n, .int .i64 x, .slice A d.length c]] w fun e w' => ∃ v, e = .returned (.tuple #[v, .int .i64 (putP o n x d).2]) ∧ Kd.R (Kd.int .u8) 5 w' w.heap.size (fun _ => True) v (putP o n x d).1 ∧ Below w.heap.size w w' := by
  have HC := Aside0.mk hC
  have HBY := Aside0.mk hb
  clear hC hb
  obtain ⟨R, hR⟩ : ∃ R, R = putP o n x d := ⟨_, rfl⟩
  rw [← hR]
  obtain ⟨W, hW⟩ : ∃ W, W = w.alloc (.cells #[.int .i64 o, .int .i64 n, .int .i64 x, .slice A d.length c] 70) := ⟨_, rfl⟩
  have HB0 := Aside0.mk (show Below w.heap.size w W by rw [hW]; exact (Below.refl _ _).alloc (Nat.le_refl _) _)
  have hbx : W.heap[w.heap.size]? = some (.cells #[.int .i64 o, .int .i64 n, .int .i64 x, .slice A d.length c] 70 (0, 0)) := by rw [hW]; exact heap_alloc_new w _
  have HBX := Aside0.mk hbx
  have HWE := Aside0.mk hW
  clear hW hbx
  obtain ⟨b, hbo⟩ : ∃ b, b = cellOk o n x d := ⟨_, rfl⟩
  have hmay := cell_may.calls o n x A c d b W (Kd.C_below HC.out HB0.out) hc (by rw [may_plain, hbo])
  have HM := Aside0.mk hmay
  clear hmay
  cases b with
  | false =>
    have HQ := Aside0.mk (show R = ([], 1) by rw [hR]; unfold putP; rw [← hbo]; rfl)
    clear hR hbo
    go_enter Tryz.func22, Tryz.ntmps22
    go_wp2_with fail
    rw [← HWE.out]
    refine HM.out.mono ?_
    rintro e w1 ⟨rfl, b1⟩
    have HB1 := Aside0.mk (HB0.out.trans (b1.mono HB0.out.size))
    clear b1
    go_wp2_with fail
    go_ret2
    exact ⟨_, by rw [HQ.out]; rfl, by rw [HQ.out]; exact Kd.R_nil _ _ _ _ _, HB1.out⟩
  | true =>
    have hok := hbo.symm
    unfold cellOk at hok
    obtain ⟨o1, o2, n1, n2, x1, x2, d1, d2⟩ := of_decide_eq_true hok
    have HQ := Aside0.mk (show R = (sealB (bodyC o n x d), 0) by rw [hR]; unfold putP; rw [← hbo]; rfl)
    clear hR hbo hok
    go_enter Tryz.func22, Tryz.ntmps22
    go_wp2_with fail
    rw [← HWE.out]
    refine HM.out.mono ?_
    rintro e w1 ⟨rfl, b1⟩
    have k1 := (b1.block _ (blk_lt HBX.out)).trans HBX.out
    have HB1 := Aside0.mk (HB0.out.trans (b1.mono HB0.out.size))
    have HK1 := Aside0.mk k1
    have c0 : w1.cell? ⟨w.heap.size, 0, none⟩ = some (.int .i64 o) := cell_blk k1
    clear b1 k1
    go_wp2_with fail
    have hf4 := fix4_any o w1 (by omega)
    rw [fix_ok4 o (by omega)] at hf4
    refine hf4.mono ?_
    clear hf4
    rintro e w2 ⟨v2, rfl, hr2, b2⟩
    obtain ⟨A2, c2, rfl⟩ := Kd.R_slice hr2
    have k2 := (b2.block _ (blk_lt HK1.out)).trans HK1.out
    have HK2 := Aside0.mk k2
    have HB2 := Aside0.mk (HB1.out.trans (b2.mono HB1.out.size))
    have HR2 := Aside0.mk (Kd.R_lower hr2 HB1.out.size)
    have c1 : w2.cell? ⟨w.heap.size, 1, none⟩ = some (.int .i64 n) := cell_blk k2
    have c2' : w2.cell? ⟨w.heap.size, 2, none⟩ = some (.int .i64 x) := cell_blk k2
    have c3 : w2.cell? ⟨w.heap.size, 3, none⟩ = some (.slice A d.length c) := cell_blk k2
    clear hr2 b2 k2 c0
    go_wp2_with fail
    obtain ⟨w3, hw3⟩ : ∃ w3, w3 = w2.alloc (.cells #[.int .i64 n, .int .i64 x, .int .i64 d.length] 3) := ⟨_, rfl⟩
    have hb3 : Below w2.heap.size w2 w3 := by rw [hw3]; exact (Below.refl _ _).alloc (Nat.le_refl _) _
    have hc3 : w3.heap[w2.heap.size]? = some (.cells #[.int .i64 n, .int .i64 x, .int .i64 d.length] 3 (0, 0)) := by rw [hw3]; exact heap_alloc_new w2 _
    rw [← hw3]
    obtain ⟨g, hg⟩ : ∃ g, g = w2.heap.size := ⟨_, rfl⟩
    rw [← hg] at hc3 ⊢
    have HG := Aside0.mk hc3
    have HB3 := Aside0.mk (HB2.out.trans (hb3.mono HB2.out.size))
    have HR3 := Aside0.mk (show Kd.R (Kd.int .u8) 5 w3 w.heap.size (fun _ => True) (.slice A2 (headC o n x d 0).length c2) (headC o n x d 0) by
      have := Kd.R_below HR2.out hb3
      rw [show headC o n x d 0 = leB o 4 by simp [headC]]
      exact this)
    have HK3 := Aside0.mk ((hb3.block _ (blk_lt HK2.out)).trans HK2.out)
    have HWG := Aside0.mk (show w.heap.size < g by rw [hg]; exact blk_lt HK2.out)
    have e0 : (leB o 4).length = (headC o n x d 0).length := by rw [show headC o n x d 0 = leB o 4 by simp [headC]]
    rw [e0]
    clear hw3 hb3 hc3 hg c1 c2' c3 e0
    go_loopg [28, 7, 8, 9, 4] 3 (fun gk v28 v7 v8 v9 v4 wr => ∃ (i : Nat) (A' : Option Addr) (c' : Nat), Aside0 (i + gk = 3) ∧ v28 = .int .i64 i ∧ v4 = .slice A' (headC o n x d i).length c' ∧ Aside0 (Kd.R (Kd.int .u8) 5 wr w.heap.size (fun _ => True) (.slice A' (headC o n x d i).length c') (headC o n x d i)) ∧ Aside0 (Below w.heap.size w wr) ∧ Aside0 (wr.heap[g]? = some (.cells #[.int .i64 n, .int .i64 x, .int .i64 d.length] 3 (0, 0)) ∧ wr.heap[w.heap.size]? = some (.cells #[.int .i64 o, .int .i64 n, .int .i64 x, .slice A d.length c] 70 (0, 0))))
    case atStart => exact ⟨0, A2, c2, ⟨by omega⟩, rfl, rfl, HR3, HB3, ⟨HG.out, HK3.out⟩⟩
    case round =>
      clear HR3 HB3 HG HK3 HR2 HB2 HK2
      obtain ⟨i, A', c', HI, rfl, rfl, HR, HB, HGK⟩ := hrel
      rcases (show i = 0 ∨ i = 1 ∨ i = 2 ∨ i = 3 by have := HI.out; omega) with rfl | rfl | rfl | rfl
      · have q0 : wr.cell? ⟨g, 0, none⟩ = some (.int .i64 n) := cell_blk HGK.out.1
        go_wp2_with fail
        have hf := fix2_any n wr (by omega)
        rw [fix_small2 n (by omega) (by omega)] at hf
        refine hf.mono ?_
        clear hf
        rintro e w5 ⟨v5, rfl, hr5, b5⟩
        obtain ⟨A5, c5, rfl⟩ := Kd.R_slice hr5
        have HC5 := Aside0.mk (row_at hr5)
        have HB5 := Aside0.mk (HB.out.trans (b5.mono HB.out.size))
        have HR5 := Aside0.mk (Kd.R_below HR.out b5)
        have HGK5 := Aside0.mk (And.intro ((b5.block _ (blk_lt HGK.out.1)).trans HGK.out.1) ((b5.block _ (blk_lt HGK.out.2)).trans HGK.out.2))
        clear hr5 b5
        go_wp2_with ((with_reducible refine gate_builtin (b := .append) (xs := #[.tmp 37, .tmp 38]) rfl ?_); at_builtin; refine Hid.out ?_)
        refine Lib.hid ?_
        refine Kd.R_append_rows (Kd.int .u8) (Rr := (Kd.int .u8).K w5) (w0 := w) w.heap.size rfl (.tmp 37) (.tmp 38) 39 5 (.int .u8 0) 1 rfl Tryz.underlying39 infoU8 rfl (by decide) (by omega) (.slice A' (headC o n x d 0).length c') (headC o n x d 0) (leB n 2) A5 (leB n 2).length c5 (fun _ => True) (fun _ => False) rfl rfl HR5.out HC5.out (fun x cs h => h) (fun _ hk => hk.elim) (fun _ _ => trivial) HB5.out HB5.out.size (by rw [headC_len _ _ _ _ 0 (by omega), leB_len]; omega) ?_
        intro v6 w6 ho hb hg _
        rw [headC1] at ho
        have HGK6 := Aside0.mk (And.intro ((hg.block g (blk_lt HGK5.out.1) (Kd.R_ne HR5.out HGK5.out.1 (by decide))).trans HGK5.out.1) ((hg.block w.heap.size (blk_lt HGK5.out.2) (Kd.R_ne HR5.out HGK5.out.2 (by decide))).trans HGK5.out.2))
        clear hg
        obtain ⟨A6, c6, rfl⟩ := Kd.R_slice ho
        have HO6 := Aside0.mk ho
        have HB6 := Aside0.mk hb
        clear ho hb
        go_wp2_with fail
        go_roundg (2)
        case measure => have := HI.out; omega
        case rel => exact ⟨1, A6, c6, ⟨by omega⟩, by go_num, rfl, HO6, HB6, HGK6⟩
      · have q0 : wr.cell? ⟨g, 1, none⟩ = some (.int .i64 x) := cell_blk HGK.out.1
        go_wp2_with fail
        have hf := fix2_any x wr (by omega)
        rw [fix_small2 x (by omega) (by omega)] at hf
        refine hf.mono ?_
        clear hf
        rintro e w5 ⟨v5, rfl, hr5, b5⟩
        obtain ⟨A5, c5, rfl⟩ := Kd.R_slice hr5
        have HC5 := Aside0.mk (row_at hr5)
        have HB5 := Aside0.mk (HB.out.trans (b5.mono HB.out.size))
        have HR5 := Aside0.mk (Kd.R_below HR.out b5)
        have HGK5 := Aside0.mk (And.intro ((b5.block _ (blk_lt HGK.out.1)).trans HGK.out.1) ((b5.block _ (blk_lt HGK.out.2)).trans HGK.out.2))
        clear hr5 b5
        go_wp2_with ((with_reducible refine gate_builtin (b := .append) (xs := #[.tmp 37, .tmp 38]) rfl ?_); at_builtin; refine Hid.out ?_)
        refine Lib.hid ?_
        refine Kd.R_append_rows (Kd.int .u8) (Rr := (Kd.int .u8).K w5) (w0 := w) w.heap.size rfl (.tmp 37) (.tmp 38) 39 5 (.int .u8 0) 1 rfl Tryz.underlying39 infoU8 rfl (by decide) (by omega) (.slice A' (headC o n x d 1).length c') (headC o n x d 1) (leB x 2) A5 (leB x 2).length c5 (fun _ => True) (fun _ => False) rfl rfl HR5.out HC5.out (fun x cs h => h) (fun _ hk => hk.elim) (fun _ _ => trivial) HB5.out HB5.out.size (by rw [headC_len _ _ _ _ 1 (by omega), leB_len]; omega) ?_
        intro v6 w6 ho hb hg _
        rw [headC2] at ho
        have HGK6 := Aside0.mk (And.intro ((hg.block g (blk_lt HGK5.out.1) (Kd.R_ne HR5.out HGK5.out.1 (by decide))).trans HGK5.out.1) ((hg.block w.heap.size (blk_lt HGK5.out.2) (Kd.R_ne HR5.out HGK5.out.2 (by decide))).trans HGK5.out.2))
        clear hg
        obtain ⟨A6, c6, rfl⟩ := Kd.R_slice ho
        have HO6 := Aside0.mk ho
        have HB6 := Aside0.mk hb
        clear ho hb
        go_wp2_with fail
        go_roundg (1)
        case measure => have := HI.out; omega
        case rel => exact ⟨2, A6, c6, ⟨by omega⟩, by go_num, rfl, HO6, HB6, HGK6⟩
      · have q0 : wr.cell? ⟨g, 2, none⟩ = some (.int .i64 d.length) := cell_blk HGK.out.1
        go_wp2_with fail
        have hf := fix2_any (d.length : Int) wr (by omega)
        rw [fix_small2 (d.length : Int) (by omega) (by omega)] at hf
        refine hf.mono ?_
        clear hf
        rintro e w5 ⟨v5, rfl, hr5, b5⟩
        obtain ⟨A5, c5, rfl⟩ := Kd.R_slice hr5
        have HC5 := Aside0.mk (row_at hr5)
        have HB5 := Aside0.mk (HB.out.trans (b5.mono HB.out.size))
        have HR5 := Aside0.mk (Kd.R_below HR.out b5)
        have HGK5 := Aside0.mk (And.intro ((b5.block _ (blk_lt HGK.out.1)).trans HGK.out.1) ((b5.block _ (blk_lt HGK.out.2)).trans HGK.out.2))
        clear hr5 b5
        go_wp2_with ((with_reducible refine gate_builtin (b := .append) (xs := #[.tmp 37, .tmp 38]) rfl ?_); at_builtin; refine Hid.out ?_)
        refine Lib.hid ?_
        refine Kd.R_append_rows (Kd.int .u8) (Rr := (Kd.int .u8).K w5) (w0 := w) w.heap.size rfl (.tmp 37) (.tmp 38) 39 5 (.int .u8 0) 1 rfl Tryz.underlying39 infoU8 rfl (by decide) (by omega) (.slice A' (headC o n x d 2).length c') (headC o n x d 2) (leB (d.length : Int) 2) A5 (leB (d.length : Int) 2).length c5 (fun _ => True) (fun _ => False) rfl rfl HR5.out HC5.out (fun x cs h => h) (fun _ hk => hk.elim) (fun _ _ => trivial) HB5.out HB5.out.size (by rw [headC_len _ _ _ _ 2 (by omega), leB_len]; omega) ?_
        intro v6 w6 ho hb hg _
        rw [headC3] at ho
        have HGK6 := Aside0.mk (And.intro ((hg.block g (blk_lt HGK5.out.1) (Kd.R_ne HR5.out HGK5.out.1 (by decide))).trans HGK5.out.1) ((hg.block w.heap.size (blk_lt HGK5.out.2) (Kd.R_ne HR5.out HGK5.out.2 (by decide))).trans HGK5.out.2))
        clear hg
        obtain ⟨A6, c6, rfl⟩ := Kd.R_slice ho
        have HO6 := Aside0.mk ho
        have HB6 := Aside0.mk hb
        clear ho hb
        go_wp2_with fail
        go_roundg (0)
        case measure => have := HI.out; omega
        case rel => exact ⟨3, A6, c6, ⟨by omega⟩, by go_num, rfl, HO6, HB6, HGK6⟩
      · have q3 : wr.cell? ⟨w.heap.size, 3, none⟩ = some (.slice A d.length c) := cell_blk HGK.out.2
        have hl3 := headC_len o n x d 3 (by omega)
        go_wp2_with ((with_reducible refine gate_builtin (b := .append) (xs := #[.tmp 41, .tmp 43]) rfl ?_); at_builtin; refine Hid.out ?_)
        refine Lib.hid ?_
        refine Kd.R_append_rows (Kd.int .u8) (Rr := (Kd.int .u8).K wr) (w0 := w) w.heap.size rfl (.tmp 41) (.tmp 43) 39 5 (.int .u8 0) 1 rfl Tryz.underlying39 infoU8 rfl (by decide) (by omega) (.slice A' (headC o n x d 3).length c') (headC o n x d 3) d A d.length c (fun _ => True) (fun _ => False) rfl rfl HR.out (Kd.C_below HC.out HB.out) (fun x cs h => h) (fun _ hk => hk.elim) (fun _ _ => trivial) HB.out HB.out.size (by omega) ?_
        intro v6 w6 ho hb _ _
        obtain ⟨A6, c6, rfl⟩ := Kd.R_slice ho
        have HO6 := Aside0.mk ho
        have HB6 := Aside0.mk hb
        have hlen : (headC o n x d 3 ++ d).length = 10 + d.length := by rw [List.length_append, hl3]
        have HLEN := Aside0.mk hlen
        have ho7 := ho
        rw [hlen] at ho7 ⊢
        clear ho hb hl3 q3 hlen
        go_wp2_with ((with_reducible refine gate_builtin (b := .append) (xs := #[.tmp 45, .tmp 48]) rfl ?_); at_builtin; refine Hid.out ?_)
        refine Lib.hid ?_
        have HO7 := Aside0.mk ho7
        clear ho7
        refine Kd.R_append_zeros (Kd.int .u8) (w0 := w) w.heap.size rfl (.tmp 45) (.tmp 48) 39 3 5 (.int .u8 0) 1 rfl Tryz.underlying39 Tryz.underlying3 infoU8 rfl (by decide) (by omega) (.slice A6 (10 + d.length) c6) (headC o n x d 3 ++ d) 0 (kx := .i64) (252 - (10 + (d.length : Int))) (fun _ => True) rfl rfl rfl (fun _ _ => trivial) HO7.out (by omega) HB6.out HB6.out.size (by rw [HLEN.out]; omega) ?_
        intro v7 w7 ho hb _ _
        rw [show (252 - (10 + (d.length : Int))).toNat = 242 - d.length by omega] at ho
        have HO8 := Aside0.mk (show Kd.R (Kd.int .u8) 5 w7 w.heap.size (fun _ => True) v7 (bodyC o n x d) from ho)
        have HB7 := Aside0.mk hb
        clear ho hb
        obtain ⟨A7, c7, rfl⟩ := Kd.R_slice HO8.out
        have hbl := bodyC_len o n x d d2
        have HBL := Aside0.mk hbl
        have hcap := (Kd.R_reads' HO8.out).2.1
        go_wp2_with fail
        have hsl := seal_any A7 c7 (bodyC o n x d) w7 (row_at HO8.out) (bodyC_byte o n x d HBY.out) (by omega)
        rw [HBL.out] at hsl
        refine hsl.mono ?_
        clear hsl
        rintro e w8 ⟨v8, rfl, hr8, b8⟩
        have HR8 := Aside0.mk (Kd.R_lower hr8 HB7.out.size)
        have HB8 := Aside0.mk (HB7.out.trans (b8.mono HB7.out.size))
        clear hr8 b8 hbl hcap
        go_wp2_with fail
        go_ret2
        exact ⟨_, by rw [HQ.out]; rfl, by rw [HQ.out]; exact HR8.out, HB8.out⟩
end Cell
end Go.Proofs.YtclneeamemofoaaGreat
namespace Go.Proofs.YtclneeamemofoaaGreat
set_option linter.unusedVariables false
set_option linter.unusedSimpArgs false
open Go.RowKit Go.Proofs.YtclneeamemofoaaGreatW.PrintWords Go.Proofs.YtclneeamemofoaaGreatW.PrintLast Go.Proofs.YtclneeamemofoaaGreatW.PrintMore
namespace Cell
open Go.Num Go.Crc PCellGets PChain
structure Cel where
  o : Int
  n : Int
  x : Int
  d : List Int
def zeroC : Cel := ⟨0, 0, 0, []⟩
def sizeC (own : List Int) : Int := (unfixP ((own.drop 8).take 2)).1
def rawC (own : List Int) : Cel := ⟨(unfixP (own.take 4)).1, (unfixP ((own.drop 4).take 2)).1, (unfixP ((own.drop 6).take 2)).1, (own.drop 10).take (sizeC own).toNat⟩
def okG (own : List Int) : Bool := decide (sizeC own ≤ 242) && (cellOk (rawC own).o (rawC own).n (rawC own).x (rawC own).d && decide (maxL (own.drop (10 + (sizeC own).toNat)) = 0))
def getP (l : List Int) : Cel × Int := if l.length ≠ 256 then (zeroC, 11) else if (openP l).2 ≠ 0 then (zeroC, (openP l).2) else if okG (openP l).1 = true then (rawC (openP l).1, 0) else (zeroC, 5)
theorem unfix2 (l : List Int) (hl : l.length = 2) (hb : ∀ x ∈ l, 0 ≤ x ∧ x ≤ 255) : unfixP l = (unB l, 0) ∧ 0 ≤ unB l ∧ unB l ≤ 65535 := by
  have h := unB_lt l hb
  rw [hl] at h
  have h2 : (256 : Int) ^ 2 = 65536 := by decide
  rw [h2] at h
  refine ⟨?_, h.1, by omega⟩
  unfold unfixP
  rw [if_neg (by omega), if_neg (by omega)]
theorem take_byte {l : List Int} (hb : ∀ x ∈ l, 0 ≤ x ∧ x ≤ 255) (i k : Nat) : ∀ x ∈ (l.drop i).take k, 0 ≤ x ∧ x ≤ 255 := fun x hx => hb x (List.mem_of_mem_drop (List.mem_of_mem_take hx))
theorem open_err (l : List Int) : (openP l).2 = 0 ∨ (openP l).2 = 12 := by
  unfold openP
  split
  · exact .inr rfl
  · exact .inl rfl
theorem open_len (l : List Int) (h : (openP l).2 = 0) : (openP l).1 = l.take (l.length - 4) ∧ 4 ≤ l.length := by
  unfold openP at *
  split at h
  · cases h
  · rename_i hn
    rw [if_neg hn]
    exact ⟨rfl, by omega⟩
theorem rowN {w : World} {b t : Nat} {x : Int} (hb : w.heap[b]? = some (.cells #[.int .u8 x] t (0, 0))) : Kd.C (Kd.int .u8) w (some ⟨b, 0, none⟩) 1 [x] := by
  refine Kd.C_of_reads (enc := fun x => Value.int .u8 x) (d := (0:Int)) (h1 := fun _ => rfl) ⟨rfl, by decide, fun _ => ⟨_, rfl, fun j hj => ?_⟩⟩
  obtain rfl : j = 0 := by omega
  have : (⟨b, 0, none⟩ : Addr).add 0 = ⟨b, 0, none⟩ := by unfold Addr.add; simp
  rw [this, cell_blk hb]
  rfl
theorem four_set {w : World} {b t : Nat} {a0 a1 a2 a3 : Value} (h : w.heap[b]? = some (.cells #[a0, a1, a2, a3] t (0, 0))) (v0 v1 v2 v3 : Value) : ((((w.setCell ⟨b, 0, none⟩ v0).setCell ⟨b, 1, none⟩ v1).setCell ⟨b, 2, none⟩ v2).setCell ⟨b, 3, none⟩ v3).heap[b]? = some (.cells #[v0, v1, v2, v3] t (0, 0)) := by
  have := blk_set (blk_set (blk_set (blk_set h 0 v0) 1 v1) 2 v2) 3 v3
  rw [this]
  rfl
theorem four_below {w0 w : World} {base b : Nat} (h : Below base w0 w) (hb : base ≤ b) (v0 v1 v2 v3 : Value) : Below base w0 ((((w.setCell ⟨b, 0, none⟩ v0).setCell ⟨b, 1, none⟩ v1).setCell ⟨b, 2, none⟩ v2).setCell ⟨b, 3, none⟩ v3) :=
  (((h.setCell hb v0).setCell hb v1).setCell hb v2).setCell hb v3
theorem unfix_any {w : World} (A : Option Addr) (c : Nat) (l : List Int) (hC : Kd.C (Kd.int .u8) w A l.length l) (hc : l.length ≤ c) (hb : ∀ x ∈ l, 0 ≤ x ∧ x ≤ 255) :
    Calls Tryz.prog 82 #[.slice A l.length c] w fun e w' => e = .returned (.tuple #[.int .i64 (unfixP l).1, .int .i64 (unfixP l).2]) ∧ Below w.heap.size w w' :=
  (num_Unfix.calls 7 A c l _ _ w hC hc (unfix_plain 0 l hb)).mono (fun _ _ h => ⟨h.1, h.2.below⟩)
theorem R_bnd {w : World} {base t : Nat} {ok : Nat → Prop} {v : Value} {xs : List Int} (h : Kd.R (Kd.int .u8) t w base ok v xs) : Kd.R (Kd.int .u8) t w base (fun k => base ≤ k) v xs := Kd.R_mono (Kd.R_bound h) (fun k hk => hk.2.1)
theorem R_only' {w w' : World} {cb base q t : Nat} {v : Value} {xs : List Int} (h : Kd.R (Kd.int .u8) t w base (fun k => q ≤ k) v xs) (f : Only cb w w') (hb : cb < q) : Kd.R (Kd.int .u8) t w' base (fun k => q ≤ k) v xs :=
  Kd.R_step h (fun k hk hlt => f.block k hlt (by omega))
structure GS (w0 w : World) (base cb : Nat) (bs : List Int) (bad : Bool) : Prop where
  below : Below w0.heap.size w0 w
  zero : w.heap[w0.heap.size]? = some (.cells #[.int .i64 0, .int .i64 0, .int .i64 0, .slice none 0 0] 70 (0, 0))
  pc : PC w base cb bs bad
  far : w0.heap.size < cb
  cur : cb < w.heap.size
theorem GS.only {w0 w w' : World} {base cb : Nat} {bs bs' : List Int} {bad bad' : Bool} (h : GS w0 w base cb bs bad) (f : Only cb w w') (p : PC w' base cb bs' bad') : GS w0 w' base cb bs' bad' :=
  ⟨h.below.trans (f.below (by have := h.far; omega) h.below.size), (f.block _ (blk_lt h.zero) (by have := h.far; omega)).trans h.zero, p, h.far, Nat.lt_of_lt_of_le h.cur f.size⟩
theorem Only.trans' {b : Nat} {x y z : World} (h : Only b x y) (k : Below x.heap.size y z) : Only b x z :=
  ⟨k.os.trans h.os, k.tape.trans h.tape, k.output.trans h.output, Nat.le_trans h.size k.size, fun q hq hn => (k.block q hq).trans (h.block q hq hn)⟩
theorem GS.end_ {w0 w w' : World} {base cb : Nat} {bs : List Int} {bad : Bool} (h : GS w0 w base cb bs bad) (f : Only cb w w') : Below w0.heap.size w0 w' ∧ w'.heap[w0.heap.size]? = some (.cells #[.int .i64 0, .int .i64 0, .int .i64 0, .slice none 0 0] 70 (0, 0)) :=
  ⟨h.below.trans (f.below (by have := h.far; omega) h.below.size), (f.block _ (blk_lt h.zero) (by have := h.far; omega)).trans h.zero⟩
theorem GS.step {w0 w w' : World} {base cb : Nat} {bs : List Int} {bad : Bool} (h : GS w0 w base cb bs bad) (f : Below w.heap.size w w') : GS w0 w' base cb bs bad :=
  ⟨h.below.trans (f.mono h.below.size), (f.block _ (blk_lt h.zero)).trans h.zero, h.pc.only (b := 0) f, h.far, Nat.lt_of_lt_of_le h.cur f.size⟩
theorem PC.lt {w : World} {base cb : Nat} {bs : List Int} {bad : Bool} (h : PC w base cb bs bad) : cb < w.heap.size ∧ base ≤ cb := by
  unfold PC at h
  cases bad with
  | true => exact ⟨blk_lt h.2.2, h.1⟩
  | false => obtain ⟨_, _, _, _, _, h⟩ := h; exact ⟨blk_lt h.cells, h.cbase⟩
set_option maxHeartbeats 16000000 in
set_option maxRecDepth 100000 in
theorem get_no {w : World} (A : Option Addr) (c : Nat) (l : List Int) (hC : Kd.C (Kd.int .u8) w A l.length l) (hb : ∀ y ∈ l, 0 ≤ y ∧ y ≤ 255) (hc : l.length ≤ c) (hl : l.length ≤ 200000) (hno : l.length ≠ 256 ∨ (openP l).2 ≠ 0) :
    Calls Tryz.prog 69 #[.slice A l.length c] w fun e w' => e = .returned (.tuple #[.agg #[.int .i64 0, .int .i64 0, .int .i64 0, .slice none 0 0], .int .i64 (getP l).2]) ∧ Below w.heap.size w w' := by
  have HC := Aside0.mk hC
  have HBY := Aside0.mk hb
  clear hC hb
  obtain ⟨r, hr⟩ : ∃ r, r = (getP l).2 := ⟨_, rfl⟩
  rw [← hr]
  by_cases h256 : l.length ≠ 256
  · have HQ := Aside0.mk (show r = 11 by rw [hr]; unfold getP; rw [if_pos h256])
    have hne : ((l.length : Int) != 256) = true := by simp; omega
    clear hr hno
    go_enter Tryz.func69, Tryz.ntmps69
    go_wp2_with fail
    refine bodyPost_ret (results_ct rfl _ _ w.heap.size 70 #[.int .i64 0, .int .i64 0, .int .i64 0, .slice none 0 0] (0, 0) _ rfl (heap_alloc_new w _) Tryz.underlying70 rfl (by kernel_rfl)) rfl ?_
    exact ⟨by rw [HQ.out]; rfl, (Below.refl _ _).alloc (Nat.le_refl _) _⟩
  · have h2 : l.length = 256 := by omega
    have h12 : (openP l).2 = 12 := by
      rcases open_err l with h | h
      · rcases hno with hn | hn
        · exact absurd h2 hn
        · exact absurd h hn
      · exact h
    have HQ := Aside0.mk (show r = 12 by rw [hr]; unfold getP; rw [if_neg h256, if_pos (by rw [h12]; decide), h12])
    have HL := Aside0.mk h2
    have H12 := Aside0.mk h12
    rw [h2] at hc hl ⊢
    clear hr hno h256 h2 h12
    go_enter Tryz.func69, Tryz.ntmps69
    go_wp2_with fail
    obtain ⟨W, hW⟩ : ∃ W, W = w.alloc (.cells #[.int .i64 0, .int .i64 0, .int .i64 0, .slice none 0 0] 70) := ⟨_, rfl⟩
    have HB0 := Aside0.mk (show Below w.heap.size w W by rw [hW]; exact (Below.refl _ _).alloc (Nat.le_refl _) _)
    have HBX := Aside0.mk (show W.heap[w.heap.size]? = some (.cells #[.int .i64 0, .int .i64 0, .int .i64 0, .slice none 0 0] 70 (0, 0)) by rw [hW]; exact heap_alloc_new w _)
    rw [← hW]
    clear hW
    have hop := open_any A c l W (Kd.C_below HC.out HB0.out) HBY.out (by rw [HL.out]; omega) (by rw [HL.out]; omega)
    rw [HL.out, H12.out] at hop
    refine hop.mono ?_
    clear hop
    rintro e w1 ⟨v1, rfl, _, b1⟩
    have hbx := (b1.block _ (blk_lt HBX.out)).trans HBX.out
    have HB1 := Aside0.mk (HB0.out.trans (b1.mono HB0.out.size))
    have HX1 := Aside0.mk hbx
    have c0 : w1.cell? ⟨w.heap.size, 0, none⟩ = some (.int .i64 0) := cell_blk hbx
    have c1 : w1.cell? ⟨w.heap.size, 1, none⟩ = some (.int .i64 0) := cell_blk hbx
    have c2 : w1.cell? ⟨w.heap.size, 2, none⟩ = some (.int .i64 0) := cell_blk hbx
    have c3 : w1.cell? ⟨w.heap.size, 3, none⟩ = some (.slice none 0 0) := cell_blk hbx
    have f0 : w1.frozen? ⟨w.heap.size, 0, none⟩ = false := frozen_blk hbx
    have f1 : w1.frozen? ⟨w.heap.size, 1, none⟩ = false := frozen_blk hbx
    have f2 : w1.frozen? ⟨w.heap.size, 2, none⟩ = false := frozen_blk hbx
    have f3 : w1.frozen? ⟨w.heap.size, 3, none⟩ = false := frozen_blk hbx
    clear b1 hbx
    go_wp2_with fail
    refine bodyPost_ret (results_ct rfl _ _ w.heap.size 70 #[.int .i64 0, .int .i64 0, .int .i64 0, .slice none 0 0] (0, 0) _ rfl (four_set HX1.out _ _ _ _) Tryz.underlying70 rfl (by kernel_rfl)) rfl ?_
    exact ⟨by rw [HQ.out]; rfl, four_below HB1.out (Nat.le_refl _) _ _ _ _⟩
set_option maxHeartbeats 16000000 in
set_option maxRecDepth 100000 in
theorem get_yes {w : World} (A : Option Addr) (c : Nat) (l : List Int) (hC : Kd.C (Kd.int .u8) w A l.length l) (hb : ∀ y ∈ l, 0 ≤ y ∧ y ≤ 255) (hc : l.length ≤ c) (h256 : l.length = 256) (h0 : (openP l).2 = 0) :
    Calls Tryz.prog 69 #[.slice A l.length c] w fun e w' => ∃ v, e = .returned (.tuple #[.agg #[.int .i64 (getP l).1.o, .int .i64 (getP l).1.n, .int .i64 (getP l).1.x, v], .int .i64 (getP l).2]) ∧ Kd.R (Kd.int .u8) 5 w' w.heap.size (fun _ => True) v (getP l).1.d ∧ Below w.heap.size w w' := by
  have HC := Aside0.mk hC
  have HBY := Aside0.mk hb
  have HL := Aside0.mk h256
  have H0 := Aside0.mk h0
  obtain ⟨ho1, _⟩ := open_len l h0
  obtain ⟨own, hown⟩ : ∃ own, own = (openP l).1 := ⟨_, rfl⟩
  have hlo : own.length = 252 := by rw [hown, ho1, List.length_take, h256]; omega
  have hob : ∀ y ∈ own, 0 ≤ y ∧ y ≤ 255 := fun y hy => hb y (by rw [hown, ho1] at hy; exact List.mem_of_mem_take hy)
  have HLO := Aside0.mk hlo
  have HOB := Aside0.mk hob
  obtain ⟨r, hr⟩ : ∃ r, r = getP l := ⟨_, rfl⟩
  rw [← hr]
  have HQ := Aside0.mk (show r = if okG own = true then (rawC own, 0) else (zeroC, 5) by rw [hr, hown]; unfold getP; rw [if_neg (by omega), if_neg (by omega)])
  have HOWN := Aside0.mk hown
  obtain ⟨o, ho⟩ : ∃ o, o = (unfixP (own.take 4)).1 := ⟨_, rfl⟩
  obtain ⟨n, hn⟩ : ∃ o, o = (unfixP ((own.drop 4).take 2)).1 := ⟨_, rfl⟩
  obtain ⟨x, hx⟩ : ∃ o, o = (unfixP ((own.drop 6).take 2)).1 := ⟨_, rfl⟩
  have hsz := unfix2 ((own.drop 8).take 2) (by rw [List.length_take, List.length_drop, hlo]; omega) (take_byte hob 8 2)
  obtain ⟨sn, hs⟩ : ∃ sn : Nat, (sn : Int) = (unfixP ((own.drop 8).take 2)).1 := ⟨(unB ((own.drop 8).take 2)).toNat, by rw [hsz.1]; omega⟩
  have hs6 : sn ≤ 65535 := by rw [hsz.1] at hs; omega
  have Ho := Aside0.mk ho
  have Hn := Aside0.mk hn
  have Hx := Aside0.mk hx
  have Hs := Aside0.mk hs
  have HS6 := Aside0.mk hs6
  have HSZ := Aside0.mk (show sizeC own = (sn : Int) from hs.symm)
  have HRAW := Aside0.mk (show rawC own = ⟨o, n, x, (own.drop 10).take sn⟩ by unfold rawC; rw [← ho, ← hn, ← hx, show sizeC own = (sn : Int) from hs.symm, Int.toNat_natCast])
  clear hC hb h0 ho1 hown hlo hob hr ho hn hx hsz hs hs6
  rw [h256] at hc ⊢
  clear h256
  go_enter Tryz.func69, Tryz.ntmps69
  go_wp2_with fail
  obtain ⟨W, hW⟩ : ∃ W, W = w.alloc (.cells #[.int .i64 0, .int .i64 0, .int .i64 0, .slice none 0 0] 70) := ⟨_, rfl⟩
  have HB0 := Aside0.mk (show Below w.heap.size w W by rw [hW]; exact (Below.refl _ _).alloc (Nat.le_refl _) _)
  have HBX := Aside0.mk (show W.heap[w.heap.size]? = some (.cells #[.int .i64 0, .int .i64 0, .int .i64 0, .slice none 0 0] 70 (0, 0)) by rw [hW]; exact heap_alloc_new w _)
  rw [← hW]
  clear hW
  have hop := open_any A c l W (Kd.C_below HC.out HB0.out) HBY.out (by rw [HL.out]; omega) (by rw [HL.out]; omega)
  rw [HL.out, H0.out, ← HOWN.out] at hop
  refine hop.mono ?_
  clear hop
  rintro e w1 ⟨v1, rfl, hr1, b1⟩
  obtain ⟨_, ho1⟩ := Kd.own_of_R hr1
  rcases ho1 with ⟨_, hz⟩ | ⟨g, cap, cur, rfl, _⟩
  · have := HLO.out; rw [hz] at this; cases this
  have HX1 := Aside0.mk ((b1.block _ (blk_lt HBX.out)).trans HBX.out)
  have HB1 := Aside0.mk (HB0.out.trans (b1.mono HB0.out.size))
  have HR1 := Aside0.mk (row_at hr1)
  clear hr1 b1
  rw [HLO.out]
  go_wp2_with fail
  have hf := from_any ⟨g, 0, none⟩ cap own HR1.out (by rw [HLO.out]; omega)
  rw [HLO.out] at hf
  refine hf.mono ?_
  clear hf
  rintro e w2 ⟨cb, rfl, hp, b2⟩
  have HG := Aside0.mk (show GS w w2 w1.heap.size cb own false from ⟨HB1.out.trans (b2.mono HB1.out.size), (b2.block _ (blk_lt HX1.out)).trans HX1.out, hp, by have := hp.lt.2; have := blk_lt HX1.out; omega, hp.lt.1⟩)
  clear hp b2 HX1 HR1
  go_wp2_with fail
  have ht := take_yes HG.out.pc 4 (by rw [show own.length = 252 by exact HLO.out]; omega)
  rw [show ((4 : Nat) : Int) = 4 from rfl] at ht
  refine ht.mono ?_
  clear ht
  rintro e w3a ⟨v3, rfl, hr, hp, ho⟩
  obtain ⟨A3, c3, rfl⟩ := Kd.R_slice hr
  have htl : (own.take 4).length = 4 := by rw [List.length_take, show own.length = 252 by exact HLO.out]; omega
  have HC3 := Aside0.mk (row_at hr)
  have HT3 := Aside0.mk htl
  have HM3 := Aside0.mk (Kd.R_reads' hr).2.1
  have hg := HG.out.only ho hp
  clear HG hp ho hr
  have HG := Aside0.mk hg
  clear hg
  rw [htl]
  clear htl
  go_wp2_with fail
  have hu := unfix_any A3 c3 (own.take 4) HC3.out HM3.out (fun x hx => HOB.out x (List.mem_of_mem_take hx))
  rw [HT3.out, ← Ho.out] at hu
  obtain ⟨q3, hq⟩ : ∃ q, q = (unfixP (own.take 4)).2 := ⟨_, rfl⟩
  rw [← hq] at hu
  refine hu.mono ?_
  clear hu hq HC3 HT3 HM3
  rintro e w3 ⟨rfl, b⟩
  have hg := HG.out.step b
  clear HG b
  have HG := Aside0.mk hg
  clear hg
  go_wp2_with fail
  have ht := take_yes HG.out.pc 2 (by rw [show (own.drop 4).length = 248 by rw [List.length_drop, HLO.out]]; omega)
  rw [show ((2 : Nat) : Int) = 2 from rfl] at ht
  refine ht.mono ?_
  clear ht
  rintro e w4a ⟨v4, rfl, hr, hp, ho⟩
  obtain ⟨A4, c4, rfl⟩ := Kd.R_slice hr
  have htl : ((own.drop 4).take 2).length = 2 := by rw [List.length_take, show (own.drop 4).length = 248 by rw [List.length_drop, HLO.out]]; omega
  have HC4 := Aside0.mk (row_at hr)
  have HT4 := Aside0.mk htl
  have HM4 := Aside0.mk (Kd.R_reads' hr).2.1
  have hg := HG.out.only ho hp
  rw [List.drop_drop] at hg
  clear HG hp ho hr
  have HG := Aside0.mk hg
  clear hg
  rw [htl]
  clear htl
  go_wp2_with fail
  have hu := unfix_any A4 c4 ((own.drop 4).take 2) HC4.out HM4.out (take_byte HOB.out 4 2)
  rw [HT4.out, ← Hn.out] at hu
  obtain ⟨q4, hq⟩ : ∃ q, q = (unfixP ((own.drop 4).take 2)).2 := ⟨_, rfl⟩
  rw [← hq] at hu
  refine hu.mono ?_
  clear hu hq HC4 HT4 HM4
  rintro e w4 ⟨rfl, b⟩
  have hg := HG.out.step b
  clear HG b
  have HG := Aside0.mk hg
  clear hg
  go_wp2_with fail
  have ht := take_yes HG.out.pc 2 (by rw [show (own.drop 6).length = 246 by rw [List.length_drop, HLO.out]]; omega)
  rw [show ((2 : Nat) : Int) = 2 from rfl] at ht
  refine ht.mono ?_
  clear ht
  rintro e w5a ⟨v5, rfl, hr, hp, ho⟩
  obtain ⟨A5, c5, rfl⟩ := Kd.R_slice hr
  have htl : ((own.drop 6).take 2).length = 2 := by rw [List.length_take, show (own.drop 6).length = 246 by rw [List.length_drop, HLO.out]]; omega
  have HC5 := Aside0.mk (row_at hr)
  have HT5 := Aside0.mk htl
  have HM5 := Aside0.mk (Kd.R_reads' hr).2.1
  have hg := HG.out.only ho hp
  rw [List.drop_drop] at hg
  clear HG hp ho hr
  have HG := Aside0.mk hg
  clear hg
  rw [htl]
  clear htl
  go_wp2_with fail
  have hu := unfix_any A5 c5 ((own.drop 6).take 2) HC5.out HM5.out (take_byte HOB.out 6 2)
  rw [HT5.out, ← Hx.out] at hu
  obtain ⟨q5, hq⟩ : ∃ q, q = (unfixP ((own.drop 6).take 2)).2 := ⟨_, rfl⟩
  rw [← hq] at hu
  refine hu.mono ?_
  clear hu hq HC5 HT5 HM5
  rintro e w5 ⟨rfl, b⟩
  have hg := HG.out.step b
  clear HG b
  have HG := Aside0.mk hg
  clear hg
  go_wp2_with fail
  have ht := take_yes HG.out.pc 2 (by rw [show (own.drop 8).length = 244 by rw [List.length_drop, HLO.out]]; omega)
  rw [show ((2 : Nat) : Int) = 2 from rfl] at ht
  refine ht.mono ?_
  clear ht
  rintro e w6a ⟨v6, rfl, hr, hp, ho⟩
  obtain ⟨A6, c6, rfl⟩ := Kd.R_slice hr
  have htl : ((own.drop 8).take 2).length = 2 := by rw [List.length_take, show (own.drop 8).length = 244 by rw [List.length_drop, HLO.out]]; omega
  have HC6 := Aside0.mk (row_at hr)
  have HT6 := Aside0.mk htl
  have HM6 := Aside0.mk (Kd.R_reads' hr).2.1
  have hg := HG.out.only ho hp
  rw [List.drop_drop] at hg
  clear HG hp ho hr
  have HG := Aside0.mk hg
  clear hg
  rw [htl]
  clear htl
  go_wp2_with fail
  have hu := unfix_any A6 c6 ((own.drop 8).take 2) HC6.out HM6.out (take_byte HOB.out 8 2)
  rw [HT6.out, ← Hs.out] at hu
  obtain ⟨q6, hq⟩ : ∃ q, q = (unfixP ((own.drop 8).take 2)).2 := ⟨_, rfl⟩
  rw [← hq] at hu
  refine hu.mono ?_
  clear hu hq HC6 HT6 HM6
  rintro e w6 ⟨rfl, b⟩
  have hg := HG.out.step b
  clear HG b
  have HG := Aside0.mk hg
  clear hg
  go_wp2_with fail
  by_cases hk : sn ≤ 242
  · have HK := Aside0.mk hk
    obtain ⟨d, hd⟩ : ∃ d, d = (own.drop 10).take sn := ⟨_, rfl⟩
    obtain ⟨rs, hrs⟩ : ∃ rs, rs = (own.drop 10).drop sn := ⟨_, rfl⟩
    have hdl : d.length = sn := by rw [hd, List.length_take, List.length_drop, HLO.out]; omega
    have HDL := Aside0.mk hdl
    have HD := Aside0.mk hd
    have HRS := Aside0.mk hrs
    have ht := take_yes (show PC w6 w1.heap.size cb (own.drop 10) false from HG.out.pc) sn (by rw [List.length_drop, HLO.out]; omega)
    rw [← hd, ← hrs] at ht
    clear hd hrs hk hdl
    refine ht.mono ?_
    clear ht
    rintro e w7 ⟨v7, rfl, hr, hp, ho⟩
    have HC6 := Aside0.mk HG.out.cur
    have HR7 := Aside0.mk (Kd.R_lower (base' := w1.heap.size) (R_bnd hr) (by have := HG.out.pc.lt; omega))
    have hg := HG.out.only ho hp
    clear HG hp ho hr
    have HG := Aside0.mk hg
    clear hg
    obtain ⟨A7, c7, rfl⟩ := Kd.R_slice HR7.out
    go_wp2_with fail
    obtain ⟨w8, hw8⟩ : ∃ w8, w8 = w7.alloc (.cells #[.int .i64 o, .int .i64 n, .int .i64 x, .slice A7 d.length c7] 70) := ⟨_, rfl⟩
    have hb8 : Below w7.heap.size w7 w8 := by rw [hw8]; exact (Below.refl _ _).alloc (Nat.le_refl _) _
    have hx8 : w8.heap[w7.heap.size]? = some (.cells #[.int .i64 o, .int .i64 n, .int .i64 x, .slice A7 d.length c7] 70 (0, 0)) := by rw [hw8]; exact heap_alloc_new w7 _
    have hcx := HG.out.cur
    rw [← hw8]
    obtain ⟨xb, hxb⟩ : ∃ xb, xb = w7.heap.size := ⟨_, rfl⟩
    rw [← hxb] at hx8 hcx ⊢
    have HXB := Aside0.mk hx8
    have HCX := Aside0.mk hcx
    have HR8 := Aside0.mk (Kd.R_below HR7.out hb8)
    have hg := HG.out.step hb8
    clear HG hb8 hx8 hcx hw8 hxb
    have HG := Aside0.mk hg
    clear hg
    refine (bad_any HG.out.pc).mono ?_
    rintro e w8' ⟨rfl, hw8'⟩
    obtain rfl : w8' = w8 := hw8'
    have c0 : w8'.cell? ⟨xb, 0, none⟩ = some (.int .i64 o) := cell_blk HXB.out
    have c1 : w8'.cell? ⟨xb, 1, none⟩ = some (.int .i64 n) := cell_blk HXB.out
    have c2 : w8'.cell? ⟨xb, 2, none⟩ = some (.int .i64 x) := cell_blk HXB.out
    have c3 : w8'.cell? ⟨xb, 3, none⟩ = some (.slice A7 d.length c7) := cell_blk HXB.out
    go_wp2_with fail
    have hm := cell_may.calls o n x A7 c7 d (cellOk o n x d) w8' (row_at HR8.out) (Kd.R_reads' HR8.out).2.1 (may_plain o n x d)
    by_cases hok : cellOk o n x d = true
    · rw [hok] at hm
      refine hm.mono ?_
      clear hm c0 c1 c2 c3
      rintro e w9 ⟨rfl, b9⟩
      have HOK := Aside0.mk hok
      have HX9 := Aside0.mk ((b9.block _ (blk_lt HXB.out)).trans HXB.out)
      have HR9 := Aside0.mk (Kd.R_below HR8.out b9)
      have hg := HG.out.step b9
      clear HG b9 hok HXB HR8 HR7
      have HG := Aside0.mk hg
      clear hg
      go_wp2_with fail
      refine (left_any HG.out.pc).mono ?_
      rintro e w9' ⟨rfl, hw9'⟩
      obtain rfl : w9' = w9 := hw9'
      go_wp2_with fail
      refine (take_yes HG.out.pc rs.length (Nat.le_refl _)).mono ?_
      rintro e w10 ⟨v10, rfl, hr, hp, ho⟩
      rw [List.take_length] at hr
      have HO10 := Aside0.mk ho
      have HV10 := Aside0.mk hr
      clear hr hp ho
      obtain ⟨A10, c10, rfl⟩ := Kd.R_slice HV10.out
      go_wp2_with ((with_reducible refine gate_builtin (b := .append) (xs := #[.tmp 73, .tmp 74]) rfl ?_); at_builtin; refine Hid.out ?_)
      refine Lib.hid ?_
      obtain ⟨w11, hw11⟩ : ∃ w11, w11 = w10.alloc (.cells #[.int .u8 0] 5) := ⟨_, rfl⟩
      have hb11 : Below w10.heap.size w10 w11 := by rw [hw11]; exact (Below.refl _ _).alloc (Nat.le_refl _) _
      have hn11 : w11.heap[w10.heap.size]? = some (.cells #[.int .u8 0] 5 (0, 0)) := by rw [hw11]; exact heap_alloc_new w10 _
      rw [← hw11]
      clear hw11
      have HO11 := Aside0.mk (HO10.out.trans (Only.of_below hb11))
      have HV11 := Aside0.mk (Kd.R_below HV10.out hb11)
      have HN11 := Aside0.mk (rowN hn11)
      clear HO10 HV10 hb11 hn11
      have HRL := Aside0.mk (show rs.length ≤ 252 by rw [HRS.out, List.length_drop, List.length_drop, HLO.out]; omega)
      have HRB := Aside0.mk (show ∀ y ∈ rs ++ [0], 0 ≤ y ∧ y ≤ 255 from fun y hy => by
        rcases List.mem_append.1 hy with h | h
        · exact HOB.out y (by rw [HRS.out] at h; exact List.mem_of_mem_drop (List.mem_of_mem_drop h))
        · rw [List.mem_singleton.1 h]; omega)
      refine wpList_step (fun K' hK => ?_)
      refine Kd.R_append_rows_step (Kd.int .u8) (Rr := (Kd.int .u8).K w11) (w0 := w11) w9'.heap.size (by rfl) (.tmp 73) (.tmp 74) 39 5 (.int .u8 0) 1 rfl Tryz.underlying39 infoU8 rfl (by decide) (by omega) (.slice A10 rs.length c10) rs [0] _ _ _ (fun _ => True) (fun _ => False) rfl rfl HV11.out HN11.out (fun x cs h => h) (fun _ hk => hk.elim) (fun _ _ => trivial) (Below.refl _ _) HO11.out.size (by have := HRL.out; omega) ?_
      intro v12 w12 hr12 hb12 _ _
      refine hK _ _ ?_
      clear hK K'
      have HO12 := Aside0.mk (show Only cb w9' w12 from HO11.out.trans' hb12)
      have HV12 := Aside0.mk hr12
      obtain ⟨A12, c12, rfl⟩ := Kd.R_slice hr12
      clear hr12 hb12 HO11 HV11 HN11
      have hln : (rs ++ [0]).length = rs.length + 1 := by rw [List.length_append]; rfl
      have hmx := max_any A12 c12 (rs ++ [0]) (row_at HV12.out) HRB.out (by rw [hln]; omega) (by rw [hln]; have := HRL.out; omega)
      obtain ⟨ln, hlnn⟩ : ∃ ln, ln = (rs ++ [0]).length := ⟨_, rfl⟩
      obtain ⟨m, hm⟩ : ∃ m, m = maxL (rs ++ [0]) := ⟨_, rfl⟩
      have hmr := maxL_range (rs ++ [0]) HRB.out
      rw [← hlnn, ← hm] at hmx
      rw [← hm] at hmr
      rw [← hlnn]
      have HM := Aside0.mk (show m = maxL (own.drop (10 + sn)) by
        rw [hm, maxL_snoc _ _ (by omega), HRS.out, List.drop_drop]
        have := (maxL_range (own.drop (10 + sn)) (fun y hy => HOB.out y (List.mem_of_mem_drop hy))).1
        first
        | (rw [Nat.add_comm sn 10]; omega)
        | omega)
      have HX12 := Aside0.mk ((HO12.out.block _ (blk_lt HX9.out) (by have := HCX.out; omega)).trans HX9.out)
      have HR12 := Aside0.mk (R_only' HR9.out HO12.out HC6.out)
      have HBW := Aside0.mk (HG.out.end_ HO12.out).1
      have HZ := Aside0.mk (HG.out.end_ HO12.out).2
      clear hm hln hlnn HX9 HR9 HV12
      by_cases h0 : m = 0
      · subst h0
        go_wp2_with fail
        refine hmx.mono ?_
        clear hmx
        rintro e w13 ⟨rfl, hw13⟩
        obtain rfl : w13 = w12 := hw13
        have z0 : w13.cell? ⟨w.heap.size, 0, none⟩ = some (.int .i64 0) := cell_blk HZ.out
        have z1 : w13.cell? ⟨w.heap.size, 1, none⟩ = some (.int .i64 0) := cell_blk HZ.out
        have z2 : w13.cell? ⟨w.heap.size, 2, none⟩ = some (.int .i64 0) := cell_blk HZ.out
        have z3 : w13.cell? ⟨w.heap.size, 3, none⟩ = some (.slice none 0 0) := cell_blk HZ.out
        have f0 : w13.frozen? ⟨w.heap.size, 0, none⟩ = false := frozen_blk HZ.out
        have f1 : w13.frozen? ⟨w.heap.size, 1, none⟩ = false := frozen_blk HZ.out
        have f2 : w13.frozen? ⟨w.heap.size, 2, none⟩ = false := frozen_blk HZ.out
        have f3 : w13.frozen? ⟨w.heap.size, 3, none⟩ = false := frozen_blk HZ.out
        have x0 : w13.cell? ⟨xb, 0, none⟩ = some (.int .i64 o) := cell_blk HX12.out
        have x1 : w13.cell? ⟨xb, 1, none⟩ = some (.int .i64 n) := cell_blk HX12.out
        have x2 : w13.cell? ⟨xb, 2, none⟩ = some (.int .i64 x) := cell_blk HX12.out
        have x3 : w13.cell? ⟨xb, 3, none⟩ = some (.slice A7 d.length c7) := cell_blk HX12.out
        go_wp2_with fail
        refine bodyPost_ret (results_ct rfl _ _ w.heap.size 70 #[.int .i64 o, .int .i64 n, .int .i64 x, .slice A7 d.length c7] (0, 0) _ rfl (four_set HZ.out _ _ _ _) Tryz.underlying70 rfl (by kernel_rfl)) rfl ?_
        have hr5 : r = (⟨o, n, x, d⟩, 0) := by
          rw [HQ.out, if_pos]
          · rw [HRAW.out, HD.out]
          · unfold okG
            rw [HRAW.out, HSZ.out, ← HD.out, HOK.out, Int.toNat_natCast, ← HM.out, decide_eq_true (by have := HK.out; omega)]
            rfl
        have hf : ∀ k, w6.heap.size ≤ k → k ≠ w.heap.size := fun k hk => by have := HG.out.far; have := HC6.out; omega
        exact ⟨_, by rw [hr5]; rfl, by rw [hr5]; exact Kd.R_mono (Kd.R_lower (Kd.R_far (p := ⟨w.heap.size, 3, none⟩) (Kd.R_far (p := ⟨w.heap.size, 2, none⟩) (Kd.R_far (p := ⟨w.heap.size, 1, none⟩) (Kd.R_far (p := ⟨w.heap.size, 0, none⟩) HR12.out hf _) hf _) hf _) hf _) HB1.out.size) (fun _ _ => trivial), four_below HBW.out (Nat.le_refl _) _ _ _ _⟩
      · have hgt : 0 < m := by omega
        have hgd : decide (0 < m) = true := decide_eq_true hgt
        go_wp2_with fail
        refine hmx.mono ?_
        clear hmx
        rintro e w13 ⟨rfl, hw13⟩
        obtain rfl : w13 = w12 := hw13
        have z0 : w13.cell? ⟨w.heap.size, 0, none⟩ = some (.int .i64 0) := cell_blk HZ.out
        have z1 : w13.cell? ⟨w.heap.size, 1, none⟩ = some (.int .i64 0) := cell_blk HZ.out
        have z2 : w13.cell? ⟨w.heap.size, 2, none⟩ = some (.int .i64 0) := cell_blk HZ.out
        have z3 : w13.cell? ⟨w.heap.size, 3, none⟩ = some (.slice none 0 0) := cell_blk HZ.out
        have f0 : w13.frozen? ⟨w.heap.size, 0, none⟩ = false := frozen_blk HZ.out
        have f1 : w13.frozen? ⟨w.heap.size, 1, none⟩ = false := frozen_blk HZ.out
        have f2 : w13.frozen? ⟨w.heap.size, 2, none⟩ = false := frozen_blk HZ.out
        have f3 : w13.frozen? ⟨w.heap.size, 3, none⟩ = false := frozen_blk HZ.out
        have HR5 := Aside0.mk (show r = (zeroC, 5) by rw [HQ.out, if_neg]; unfold okG; rw [HSZ.out, Int.toNat_natCast, ← HM.out, decide_eq_false h0, Bool.and_false, Bool.and_false]; decide)
        go_wp2_with fail
        refine bodyPost_ret (results_ct rfl _ _ w.heap.size 70 #[.int .i64 0, .int .i64 0, .int .i64 0, .slice none 0 0] (0, 0) _ rfl (four_set HZ.out _ _ _ _) Tryz.underlying70 rfl (by kernel_rfl)) rfl ?_
        exact ⟨_, by rw [HR5.out]; rfl, by rw [HR5.out]; exact Kd.R_nil _ _ _ _ _, four_below HBW.out (Nat.le_refl _) _ _ _ _⟩
    · have hok' : cellOk o n x d = false := by simpa using hok
      rw [hok'] at hm
      refine hm.mono ?_
      clear hm c0 c1 c2 c3
      rintro e w9 ⟨rfl, b9⟩
      have HR5 := Aside0.mk (show r = (zeroC, 5) by rw [HQ.out, if_neg]; unfold okG; rw [HRAW.out, HSZ.out, ← HD.out, hok', Bool.false_and, Bool.and_false]; decide)
      have hg := HG.out.step b9
      clear HG b9 hok hok' HXB HR8 HR7
      have HG := Aside0.mk hg
      clear hg
      have hz := HG.out.zero
      have z0 : w9.cell? ⟨w.heap.size, 0, none⟩ = some (.int .i64 0) := cell_blk hz
      have z1 : w9.cell? ⟨w.heap.size, 1, none⟩ = some (.int .i64 0) := cell_blk hz
      have z2 : w9.cell? ⟨w.heap.size, 2, none⟩ = some (.int .i64 0) := cell_blk hz
      have z3 : w9.cell? ⟨w.heap.size, 3, none⟩ = some (.slice none 0 0) := cell_blk hz
      have f0 : w9.frozen? ⟨w.heap.size, 0, none⟩ = false := frozen_blk hz
      have f1 : w9.frozen? ⟨w.heap.size, 1, none⟩ = false := frozen_blk hz
      have f2 : w9.frozen? ⟨w.heap.size, 2, none⟩ = false := frozen_blk hz
      have f3 : w9.frozen? ⟨w.heap.size, 3, none⟩ = false := frozen_blk hz
      clear hz
      go_wp2_with fail
      refine bodyPost_ret (results_ct rfl _ _ w.heap.size 70 #[.int .i64 0, .int .i64 0, .int .i64 0, .slice none 0 0] (0, 0) _ rfl (four_set HG.out.zero _ _ _ _) Tryz.underlying70 rfl (by kernel_rfl)) rfl ?_
      exact ⟨_, by rw [HR5.out]; rfl, by rw [HR5.out]; exact Kd.R_nil _ _ _ _ _, four_below HG.out.below (Nat.le_refl _) _ _ _ _⟩
  · have ht := take_no (show PC w6 w1.heap.size cb (own.drop 10) false from HG.out.pc) (sn : Int) (by
      unfold takeOk
      rw [decide_eq_false (p := (sn : Int) ≤ ((own.drop 10).length : Int)) (by rw [List.length_drop, HLO.out]; omega), Bool.and_false, Bool.and_false])
    refine ht.mono ?_
    clear ht
    rintro e w7 ⟨rfl, hp, ho⟩
    have hg := HG.out.only ho hp
    clear HG hp ho
    have HG := Aside0.mk hg
    clear hg
    go_wp2_with fail
    obtain ⟨w8, hw8⟩ : ∃ w8, w8 = w7.alloc (.cells #[.int .i64 o, .int .i64 n, .int .i64 x, .slice none 0 0] 70) := ⟨_, rfl⟩
    have hb8 : Below w7.heap.size w7 w8 := by rw [hw8]; exact (Below.refl _ _).alloc (Nat.le_refl _) _
    rw [← hw8]
    clear hw8
    have hg := HG.out.step hb8
    clear HG hb8
    have HG := Aside0.mk hg
    clear hg
    refine (bad_any HG.out.pc).mono ?_
    rintro e w8' ⟨rfl, hw8'⟩
    obtain rfl : w8' = w8 := hw8'
    have HR5 := Aside0.mk (show r = (zeroC, 5) by rw [HQ.out, if_neg]; unfold okG; rw [HSZ.out, decide_eq_false (by omega), Bool.false_and]; decide)
    have z0 : w8'.cell? ⟨w.heap.size, 0, none⟩ = some (.int .i64 0) := cell_blk HG.out.zero
    have z1 : w8'.cell? ⟨w.heap.size, 1, none⟩ = some (.int .i64 0) := cell_blk HG.out.zero
    have z2 : w8'.cell? ⟨w.heap.size, 2, none⟩ = some (.int .i64 0) := cell_blk HG.out.zero
    have z3 : w8'.cell? ⟨w.heap.size, 3, none⟩ = some (.slice none 0 0) := cell_blk HG.out.zero
    have f0 : w8'.frozen? ⟨w.heap.size, 0, none⟩ = false := frozen_blk HG.out.zero
    have f1 : w8'.frozen? ⟨w.heap.size, 1, none⟩ = false := frozen_blk HG.out.zero
    have f2 : w8'.frozen? ⟨w.heap.size, 2, none⟩ = false := frozen_blk HG.out.zero
    have f3 : w8'.frozen? ⟨w.heap.size, 3, none⟩ = false := frozen_blk HG.out.zero
    go_wp2_with fail
    refine bodyPost_ret (results_ct rfl _ _ w.heap.size 70 #[.int .i64 0, .int .i64 0, .int .i64 0, .slice none 0 0] (0, 0) _ rfl (four_set HG.out.zero _ _ _ _) Tryz.underlying70 rfl (by kernel_rfl)) rfl ?_
    exact ⟨_, by rw [HR5.out]; rfl, by rw [HR5.out]; exact Kd.R_nil _ _ _ _ _, four_below HG.out.below (Nat.le_refl _) _ _ _ _⟩
end Cell
end Go.Proofs.YtclneeamemofoaaGreat
namespace Go.Proofs.YtclneeamemofoaaGreat
set_option linter.unusedVariables false
set_option linter.unusedSimpArgs false
open Go.RowKit Go.Proofs.YtclneeamemofoaaGreatW.PrintWords Go.Proofs.YtclneeamemofoaaGreatW.PrintLast Go.Proofs.YtclneeamemofoaaGreatW.PrintMore
namespace Cell
open Go.Num Go.Crc PCellGets PChain
theorem open_seal (l : List Int) : openP (sealB l) = (l, 0) := by
  unfold openP
  have e : (sealB l).length - 4 = l.length := by rw [seal_len]; omega
  rw [e, if_neg]
  · unfold sealB
    rw [List.take_left]
  · rintro (h | h)
    · rw [seal_len] at h; omega
    · apply h
      unfold sealB
      rw [List.drop_left, List.take_left]
theorem unfix_le (n : Int) (h0 : 0 ≤ n) (h1 : n ≤ 2147483647) (k : Nat) (hk1 : 1 ≤ k) (hk : k ≤ 4) (hs : n < 256 ^ k) : unfixP (leB n k) = (n, 0) := by
  unfold unfixP
  rw [leB_len, if_neg (by omega), unB_leB_small n k h0 hs, if_neg (by omega)]
theorem maxL_rep (k : Nat) : maxL (List.replicate k 0) = 0 := by
  induction k with
  | zero => rfl
  | succ k ih => rw [List.replicate_succ]; simp [maxL, ih]
theorem body_eq (o n x : Int) (d : List Int) : bodyC o n x d = leB o 4 ++ (leB n 2 ++ (leB x 2 ++ (leB (d.length : Int) 2 ++ (d ++ List.replicate (242 - d.length) 0)))) := by
  unfold bodyC headC
  simp
theorem cut2 {a b l : List Int} (k : Nat) (h : l = a ++ b) (hk : a.length = k) : l.take k = a ∧ l.drop k = b := by
  subst h; subst hk
  exact ⟨List.take_left, List.drop_left⟩
theorem okD {o n x : Int} {d : List Int} (h : cellOk o n x d = true) : 1 ≤ o ∧ o ≤ 2147483647 ∧ 0 ≤ n ∧ n ≤ 65535 ∧ 0 ≤ x ∧ x ≤ 65535 ∧ 1 ≤ d.length ∧ d.length ≤ 242 := by
  unfold cellOk at h
  exact of_decide_eq_true h
theorem raw_body (o n x : Int) (d : List Int) (h : cellOk o n x d = true) : rawC (bodyC o n x d) = ⟨o, n, x, d⟩ ∧ okG (bodyC o n x d) = true := by
  obtain ⟨h1, h2, h3, h4, h5, h6, h7, h8⟩ := okD h
  obtain ⟨B, hB⟩ : ∃ B, B = bodyC o n x d := ⟨_, rfl⟩
  rw [← hB]
  rw [body_eq] at hB
  have p : (256 : Int) ^ 2 = 65536 := by decide
  have p4 : (256 : Int) ^ 4 = 4294967296 := by decide
  obtain ⟨a1, b1⟩ := cut2 4 hB (leB_len _ _)
  obtain ⟨a2, b2⟩ := cut2 2 b1 (leB_len _ _)
  obtain ⟨a3, b3⟩ := cut2 2 b2 (leB_len _ _)
  obtain ⟨a4, b4⟩ := cut2 2 b3 (leB_len _ _)
  obtain ⟨a5, b5⟩ := cut2 d.length b4 rfl
  rw [List.drop_drop] at b2 b3 b4 b5 a3 a4 a5
  rw [List.drop_drop] at b3 b4 b5 a4 a5
  rw [List.drop_drop] at b4 b5 a5
  rw [List.drop_drop] at b5
  have hs : sizeC B = (d.length : Int) := by
    unfold sizeC
    rw [show (B.drop 8).take 2 = leB (d.length : Int) 2 from a4, unfix_le _ (by omega) (by omega) 2 (by omega) (by omega) (by omega)]
  have hr : rawC B = ⟨o, n, x, d⟩ := by
    unfold rawC
    rw [hs, Int.toNat_natCast, show (B.drop 10).take d.length = d from a5, a1, a2, show (B.drop 6).take 2 = leB x 2 from a3, unfix_le o (by omega) (by omega) 4 (by omega) (by omega) (by omega), unfix_le n (by omega) (by omega) 2 (by omega) (by omega) (by omega), unfix_le x (by omega) (by omega) 2 (by omega) (by omega) (by omega)]
  refine ⟨hr, ?_⟩
  unfold okG
  rw [hr, hs, Int.toNat_natCast, h, decide_eq_true (by omega)]
  have e : B.drop (10 + d.length) = List.replicate (242 - d.length) 0 := by
    rw [← b5]
    congr 1
    omega
  rw [e, maxL_rep]
  rfl
theorem put_body {o n x : Int} {d : List Int} (h : cellOk o n x d = true) : putP o n x d = (sealB (bodyC o n x d), 0) := by unfold putP; rw [if_pos h]
theorem get_put (o n x : Int) (d : List Int) (h : cellOk o n x d = true) : getP (putP o n x d).1 = (⟨o, n, x, d⟩, 0) := by
  obtain ⟨h1, h2⟩ := raw_body o n x d h
  have h8 := (okD h).2.2.2.2.2.2.2
  rw [put_body h]
  unfold getP
  rw [if_neg (by rw [seal_len, bodyC_len _ _ _ _ h8]; decide), open_seal, if_neg (by simp), if_pos h2, h1]
theorem xput_l1 : ∀ (j : Nat) (b : List Int), b.length + j = 252 → (∀ x ∈ b, 0 ≤ x ∧ x ≤ 255) → chantryref09_Put.l1 (2773 + j + 1) b = some (sealB (b ++ List.replicate j 0), 0)
  | 0, b, h, hb => by
    rw [chantryref09_Put.l1_s, if_neg (by omega)]
    have := xseal_plain 0 b hb (by omega)
    rw [show 0 + 11 * b.length + 1 = 2773 by omega] at this
    rw [this]
    simp
  | j + 1, b, h, hb => by
    rw [chantryref09_Put.l1_s, if_pos (by omega), if_pos (by omega), show 2773 + (j + 1) = 2773 + j + 1 by omega, xput_l1 j (b ++ [0]) (by rw [List.length_append]; show b.length + 1 + j = 252; omega) (fun x hx => by
      rcases List.mem_append.1 hx with hx | hx
      · exact hb x hx
      · rw [List.mem_singleton.1 hx]; omega)]
    rw [List.append_assoc, List.replicate_succ]
    rfl
theorem wrap_id (z : Int) (h0 : -9223372036854775808 ≤ z) (h1 : z ≤ 9223372036854775807) : wrap64 z = z := by
  first | (unfold wrap64; omega) | (simp [wrap64]; omega)
theorem xfix_any (k : Nat) (hk : 7 ≤ k) (n w : Int) : chantryref01_Fix.f k n w = some (fixP n w) := by
  obtain ⟨j, rfl⟩ : ∃ j, k = j + 7 := ⟨k - 7, by omega⟩
  exact xfix_plain j n w
theorem xmay_plain (o n x : Int) (d : List Int) : chantryref09_may.f o n x d = some (cellOk o n x d) := by
  unfold chantryref09_may.f cellOk
  by_cases h1 : o ≥ 1
  · rw [if_pos h1]
    by_cases h2 : o ≤ 2147483647
    · rw [if_pos h2]
      by_cases h3 : n ≥ 0
      · rw [if_pos h3]
        by_cases h3' : n ≤ 65535
        · rw [if_pos h3']
          by_cases h4 : x ≥ 0
          · rw [if_pos h4]
            by_cases h4' : x ≤ 65535
            · rw [if_pos h4']
              by_cases h5 : (d.length : Int) ≥ 1
              · rw [if_pos h5]; congr 1; exact decide_eq_decide.2 (by omega)
              · rw [if_neg h5]; congr 1; exact (decide_eq_false (by omega)).symm
            · rw [if_neg h4']; congr 1; exact (decide_eq_false (by omega)).symm
          · rw [if_neg h4]; congr 1; exact (decide_eq_false (by omega)).symm
        · rw [if_neg h3']; congr 1; exact (decide_eq_false (by omega)).symm
      · rw [if_neg h3]; congr 1; exact (decide_eq_false (by omega)).symm
    · rw [if_neg h2]; congr 1; exact (decide_eq_false (by omega)).symm
  · rw [if_neg h1]; congr 1; exact (decide_eq_false (by omega)).symm
theorem xput_plain (o n x : Int) (d : List Int) (hb : ∀ y ∈ d, 0 ≤ y ∧ y ≤ 255) : ∃ k, chantryref09_Put.f k o n x d = some (putP o n x d) := by
  by_cases hc : cellOk o n x d = true
  · obtain ⟨h1, h2, h3, h4, h5, h6, h7, h8⟩ := okD hc
    refine ⟨2773 + (242 - d.length) + 1 + 4, ?_⟩
    unfold chantryref09_Put.f
    rw [xmay_plain, hc, put_body hc]
    simp only [Option.bind_some, if_true]
    rw [xfix_any _ (by omega), fix_ok4 o ⟨by omega, h2⟩]
    simp only [Option.bind_some]
    have f0 : rd [n, x, (d.length : Int)] 0 = n := rfl
    have f1 : rd [n, x, (d.length : Int)] 1 = x := rfl
    have f2 : rd [n, x, (d.length : Int)] 2 = (d.length : Int) := rfl
    have w1 : wrap64 (0 + 1) = 1 := wrap_id _ (by decide) (by decide)
    have w2 : wrap64 (1 + 1) = 2 := wrap_id _ (by decide) (by decide)
    have w3 : wrap64 (2 + 1) = 3 := wrap_id _ (by decide) (by decide)
    have e0 : leB o 4 = headC o n x d 0 := by simp [headC]
    have hh0 := headC_len o n x d 0 (by omega)
    have hh1 := headC_len o n x d 1 (by omega)
    have hh2 := headC_len o n x d 2 (by omega)
    have hh3 := headC_len o n x d 3 (by omega)
    rw [e0]
    generalize hK : 2773 + (242 - d.length) + 1 = K
    have hK7 : 7 ≤ K := by omega
    simp only [chantryref09_Put.l0]
    rw [if_pos (by decide), if_pos (by decide), if_pos (by simp), f0, xfix_any _ (by omega), fix_small2 n h3 (by omega)]
    simp only [Option.bind_some]
    rw [if_pos (by rw [hh0, leB_len]; decide), headC1, w1]
    rw [if_pos (by decide), if_pos (by decide), if_pos (by simp), f1, xfix_any _ (by omega), fix_small2 x h5 (by omega)]
    simp only [Option.bind_some]
    rw [if_pos (by rw [hh1, leB_len]; decide), headC2, w2]
    rw [if_pos (by decide), if_pos (by decide), if_pos (by simp), f2, xfix_any _ (by omega), fix_small2 _ (by omega) (by omega)]
    simp only [Option.bind_some]
    rw [if_pos (by rw [hh2, leB_len]; decide), headC3, w3]
    rw [if_neg (by decide), if_pos (by rw [hh3]; omega), ← hK, xput_l1 _ _ (by rw [List.length_append, hh3]; omega) (fun y hy => by
      rcases List.mem_append.1 hy with h | h
      · exact headC_byte _ _ _ _ _ y h
      · exact hb y h)]
    rfl
  · refine ⟨0, ?_⟩
    unfold chantryref09_Put.f putP
    rw [xmay_plain, Bool.eq_false_iff.2 hc]
    rfl
theorem xput_any {w : World} (o n x : Int) (A : Option Addr) (c : Nat) (d : List Int) (hC : Kd.C (Kd.int .u8) w A d.length d) (hc : d.length ≤ c) (hb : ∀ y ∈ d, 0 ≤ y ∧ y ≤ 255) :
    Calls Tryz.prog 26 #[.agg #[.int .i64 o, .int .i64 n, .int .i64 x, .slice A d.length c]] w fun e w' => ∃ v, e = .returned (.tuple #[v, .int .i64 (putP o n x d).2]) ∧ Kd.R (Kd.int .u8) 5 w' w.heap.size (fun _ => True) v (putP o n x d).1 ∧ Below w.heap.size w w' := by
  obtain ⟨k, hk⟩ := xput_plain o n x d hb
  exact chantryref09_Put.calls k o n x A c d _ _ w hC hc hk
end Cell
end Go.Proofs.YtclneeamemofoaaGreat
namespace Go.Proofs.YtclneeamemofoaaGreat
set_option linter.unusedVariables false
set_option linter.unusedSimpArgs false
open Go.RowKit Go.Proofs.YtclneeamemofoaaGreatW.PrintWords Go.Proofs.YtclneeamemofoaaGreatW.PrintLast Go.Proofs.YtclneeamemofoaaGreatW.PrintMore
namespace Cell
open Go.Num Go.Crc PCellGets PChain
theorem put_byte {o n x : Int} {d : List Int} {P : List Int × Int} (hb : ∀ y ∈ d, 0 ≤ y ∧ y ≤ 255) (h : P = putP o n x d) : ∀ y ∈ P.1, 0 ≤ y ∧ y ≤ 255 := by
  subst h
  unfold putP
  split
  · exact seal_byte (bodyC_byte _ _ _ _ hb)
  · intro y hy; cases hy
end Cell
end Go.Proofs.YtclneeamemofoaaGreat
end
