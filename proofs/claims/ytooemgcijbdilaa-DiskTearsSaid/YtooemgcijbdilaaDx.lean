/- The disk in memory: clones of bytes, blocks, reads. -/
import Derived.Test.YtooemgcijbdilaaDw
import Derived.Below
import Derived.Lib.Hide
import Derived.OwnWalk
import Derived.WalkKit
import Derived.KernelRfl
import Derived.RowKit3
import Derived.Deep.LoopGhost
import Derived.Deep.QuietTactic
import Derived.BigQuiet
import Derived.WideLaws
import Derived.Great.BuildSlice
import Derived.Deep.Slices
import Derived.Outline
import Derived.Deep.DeepCutAuto
import Derived.WalkSpells
import Derived.RegionTactic
import Derived.BigRegion
import Derived.WalkLawsBesides
namespace Go.Proofs.Ytooemgcijbdilaa
set_option linter.unusedVariables false
set_option linter.unusedSimpArgs false
open Go.RowKit Go.Proofs.YtooemgcijbdilaaW.PrintWords Go.Proofs.YtooemgcijbdilaaW.PrintLast Go.Proofs.YtooemgcijbdilaaW.PrintMore
namespace Disk
open Go.Disk PDiskDoes
theorem infoU8 : (Try.prog.info? 5).map (fun i => (i.zero, i.size, i.bytes)) = some (some (.int .u8 0), 1, 1) := by kernel_rfl
theorem eq_nil (a : Addr) (n c : Nat) (W : World) : (binOp BinOp.eql 30 (.slice (some a) n c) (.slice none 0 0)).run Try.prog W = .ok (.bool false) W := by
  kernel_rfl
set_option maxHeartbeats 8000000 in
set_option maxRecDepth 100000 in
theorem clone8 {w : World} (a : Addr) (c : Nat) (xs : List Int) (hC : Kd.C (Kd.int .u8) w (some a) xs.length xs) (hl : xs.length ≤ 262144) :
    Calls Try.prog 32 #[.slice (some a) xs.length c] w fun e w' => ∃ v, e = .returned v ∧ Kd.R (Kd.int .u8) 5 w' w.heap.size (fun _ => True) v xs ∧ v ≠ .slice none 0 0 ∧ Below w.heap.size w w' := by
  have HC := Aside0.mk hC
  clear hC
  have heq := eq_nil a xs.length c
  go_enter Try.func32, Try.ntmps32
  go_wp2_with ((with_reducible refine gate_builtin (b := .append) (xs := #[.tmp 5, .tmp 6]) rfl ?_); at_builtin; refine Hid.out ?_)
  refine Lib.hid ?_
  have HAL := Aside0.mk ((Below.refl w.heap.size w).alloc (Nat.le_refl _) (.cells #[] 5))
  refine Kd.R_append_rows (Kd.int .u8) (Rr := (Kd.int .u8).K (w.alloc (.cells #[] 5))) (w0 := w) w.heap.size rfl (.tmp 5) (.tmp 6) 30 5 (.int .u8 0) 1 rfl Try.underlying30 infoU8 rfl (by decide) (by omega) (.slice (some ⟨w.heap.size, 0, none⟩) 0 0) [] xs (some a) xs.length c (fun _ => True) (fun _ => False) rfl rfl ?aO ?aR (fun x cs h => h) (fun _ hk => hk.elim) (fun _ _ => trivial) HAL.out ?aS ?aL ?_
  case aO => exact ⟨fun _ _ => trivial, OwnRow.lit w w.heap.size (Reps.none _ _) (Nat.le_refl _) (by simp)⟩
  case aR => exact Kd.C_below HC.out HAL.out
  case aS => simp
  case aL => simp; omega
  intro v1 w1 ho hb hg hat
  have HO := Aside0.mk ho
  have HB := Aside0.mk hb
  have HAT := Aside0.mk hat
  clear ho hb hg hat
  go_wp2_with fail
  go_ret
  refine ⟨v1, rfl, by simpa using HO.out, fun e => ?_, HB.out⟩
  rcases HAT.out with h | ⟨b, h, _⟩
  · rw [e] at h; simp [Value.ownBlock] at h
  · rw [e] at h; simp [Value.ownBlock] at h
set_option maxHeartbeats 8000000 in
set_option maxRecDepth 100000 in
theorem block_at {w : World} (sb nb cs n : Nat) (hn : n < nb) (hnb : nb ≤ 1024) (hcs : nb * 256 ≤ cs) :
    Calls Try.prog 44 #[.slice (some ⟨sb, 0, none⟩) (nb * 256) cs, .int .i64 n] w fun e w' => e = .returned (.slice (some ⟨sb, n * 256, none⟩) 256 256) ∧ w' = w := by
  have h1 : (n : Int) * 256 ≤ ((n : Int) + 1) * 256 := by omega
  have h2 : ((n : Int) + 1) * 256 ≤ (cs : Int) := by omega
  have h3 : (0 : Int) ≤ (n : Int) * 256 := by omega
  go_enter Try.func44, Try.ntmps44
  go_wp2_with fail
  go_ret
  refine ⟨?_, rfl⟩
  show Ending.returned (Value.slice (some ⟨sb, n * 256, none⟩) ((n + 1) * 256 - n * 256) ((n + 1) * 256 - n * 256)) = _
  rw [show (n + 1) * 256 - n * 256 = 256 by omega]
theorem u8s_len (l : List Int) : (u8s l).length = l.length := List.length_map _
theorem u8s_lay (F P : List Int) (sp : List Value) (o : Nat) (h : o + P.length ≤ F.length) : (u8s F ++ sp).take o ++ u8s P ++ (u8s F ++ sp).drop (o + (u8s P).length) = u8s (lay F o P) ++ sp := by
  rw [u8s_len, List.take_append_of_le_length (by rw [u8s_len]; omega), List.drop_append_of_le_length (by rw [u8s_len]; omega)]
  unfold lay u8s
  simp [List.map_take, List.map_drop]
/-- A piece copied into a row of bytes. -/
theorem copy_in {w : World} {g o dl dc sl sc : Nat} (a : Addr) (F P : List Int) (sp : List Value) (hb : w.heap[g]? = some (.cells (u8s F ++ sp).toArray 5 (0, 0))) (ho : o + P.length ≤ F.length) (hn : P.length = Nat.min sl dl)
    (hs : ∀ j, j < P.length → w.cell? (a.add j) = some (.int .u8 (P.getD j 0))) :
    ∃ w', (Builtin.copy_ #[30, 30] 3 #[.slice (some ⟨g, o, none⟩) dl dc, .slice (some a) sl sc]).run Try.prog w = .ok (.int .i64 (P.length : Int)) w' ∧ w'.heap[g]? = some (.cells (u8s (lay F o P) ++ sp).toArray 5 (0, 0)) ∧ Fr (fun k => k = g) (fun _ _ => False) w w' := by
  have hsz : ∀ j, j < P.length → o + j < (u8s F ++ sp).toArray.size := fun j hj => by rw [List.size_toArray, List.length_append, u8s_len]; omega
  have hr := run_copy_cells (P := Try.prog) w 30 30 3 5 g o dl dc a sl sc (u8s P) Try.underlying30 (by kernel_rfl) (by rw [u8s_len]; exact hn) (fun j v hv => ?_) (fun j hj => ?_) (fun j hj => ?_) (fun v hv => ?_)
  · refine ⟨w.setCells g o (u8s P), ?_, ?_, ?_⟩
    · rw [u8s_len] at hr
      exact hr
    · obtain ⟨cur', h1, h2, h3⟩ := setCells_row (u8s P) o w (u8s F ++ sp).toArray hb (by rw [List.size_toArray, List.length_append, u8s_len, u8s_len]; omega)
      rw [h1]
      have : cur' = (u8s (lay F o P) ++ sp).toArray := by
        rw [← u8s_lay F P sp o ho]
        apply Array.ext'
        rw [h3]
      rw [this]
    · obtain ⟨s1, s2, s3, s4⟩ := setCells_same g (u8s P) o w
      exact ⟨s1, s2, s3, by rw [s4]; exact Nat.le_refl _, fun k _ hk _ => setCells_far _ _ _ hk⟩
  · have hjl : j < P.length := by
      rcases Nat.lt_or_ge j P.length with h | h
      · exact h
      · rw [List.getElem?_eq_none (by rw [u8s_len]; exact h)] at hv; cases hv
    have e : v = .int .u8 (P.getD j 0) := by
      unfold u8s at hv
      rw [List.getElem?_map, List.getElem?_eq_getElem hjl] at hv
      simp at hv
      rw [← hv]
      simp [hjl]
    rw [e]
    exact hs j hjl
  · rw [cell_blk hb, Array.getElem?_eq_getElem (hsz j (by rw [u8s_len] at hj; exact hj))]
    rfl
  · exact frozen_blk hb
  · unfold u8s at hv
    obtain ⟨x, _, rfl⟩ := List.mem_map.1 hv
    rfl
/-- Does a mask name a sector? -/
def onM (mask : Int) (k : Nat) : Bool := Go.bits .and .i64 (mask / 2 ^ k) 1 == 1
def tearD (D : Dk) (n : Nat) (bs : List Int) (mask : Int) : Dk := { D with safe := D.safe.set n (tornTo (onM mask) (D.safe.getD n []) bs 4) }
theorem tornTo_byte (on : Nat → Bool) (was bs : List Int) (hw : ∀ x ∈ was, 0 ≤ x ∧ x ≤ 255) (hb : ∀ x ∈ bs, 0 ≤ x ∧ x ≤ 255) : ∀ k, ∀ x ∈ tornTo on was bs k, 0 ≤ x ∧ x ≤ 255
  | 0 => hw
  | k + 1 => by
    have ih := tornTo_byte on was bs hw hb k
    unfold tornTo
    split
    · intro x hx
      rcases List.mem_append.1 hx with h | h
      · exact ih x (List.mem_of_mem_take h)
      · rcases List.mem_append.1 h with h | h
        · exact hb x (List.mem_of_mem_drop (List.mem_of_mem_take h))
        · exact ih x (List.mem_of_mem_drop h)
    · exact ih
theorem getD_get {l : List (List Int)} (n : Nat) (hn : n < l.length) : l.getD n [] = l[n] := by simp [List.getD_eq_getElem?_getD, hn]
theorem ok_set {D : Dk} (h : Ok D) (n : Nat) (c : List Int) (hc : c.length = 256) (hb : ∀ x ∈ c, 0 ≤ x ∧ x ≤ 255) : Ok { D with safe := D.safe.set n c } := by
  refine ⟨by show 16 ≤ (D.safe.set n c).length ∧ _; rw [List.length_set]; exact h.few, fun b hbm => ?_, fun b hbm => ?_, fun p hp => ?_, h.left⟩
  · rcases List.mem_or_eq_of_mem_set hbm with h1 | h1
    · exact h.len b h1
    · rw [h1]; exact hc
  · rcases List.mem_or_eq_of_mem_set hbm with h1 | h1
    · exact h.byte b h1
    · rw [h1]; exact hb
  · have h1 := h.at_ p hp
    show 0 ≤ p.1 ∧ p.1 < (D.safe.set n c).length ∧ _
    rw [List.length_set]
    exact h1
theorem tear_ok {D : Dk} (h : Ok D) (n : Nat) (hn : n < D.safe.length) (bs : List Int) (hl : bs.length = 256) (hb : ∀ x ∈ bs, 0 ≤ x ∧ x ≤ 255) (mask : Int) : Ok (tearD D n bs mask) := by
  unfold tearD
  rw [getD_get n hn]
  exact ok_set h n _ (tornTo_len _ _ _ (h.len _ (List.getElem_mem hn)) hl 4 (Nat.le_refl _)) (tornTo_byte _ _ _ (h.byte _ (List.getElem_mem hn)) hb 4)
set_option maxHeartbeats 8000000 in
set_option maxRecDepth 100000 in
theorem tear_any {w : World} {base db sb : Nat} {D : Dk} (h : PD w base db sb D) (N : Int) (a : Addr) (c : Nat) (bs : List Int) (mask : Int) (hN : 0 ≤ N ∧ N < D.safe.length) (hlen : bs.length = 256) (hc : 256 ≤ c) (hC : ∀ x, (∀ k, k < w.heap.size → k ≠ sb → x.heap[k]? = w.heap[k]?) → Kd.C (Kd.int .u8) x (some a) bs.length bs) (hby : ∀ x ∈ bs, 0 ≤ x ∧ x ≤ 255) :
    Calls Try.prog 35 #[.pointer (some ⟨db, 0, none⟩), .agg #[.int .i64 N, .slice (some a) bs.length c], .int .i64 mask] w fun e w' => (∃ v, e = .returned v) ∧ PD w' base db sb (tearD D N.toNat bs mask) ∧ Fr (fun k => k = sb) (fun _ _ => False) w w' := by
  obtain ⟨vw, cs, sp, h⟩ := h
  have HX := Aside0.mk h
  have HC := Aside0.mk hC
  have HBY := Aside0.mk hby
  have hf := h.ok.few
  clear h hC hby
  rw [hlen]
  obtain ⟨n, rfl⟩ : ∃ n : Nat, N = n := ⟨N.toNat, by omega⟩
  have hn : n < D.safe.length := by omega
  clear hN
  have HFL := Aside0.mk (flatLen HX.out.ok)
  go_enter Try.func35, Try.ntmps35
  go_wp2_with fail
  obtain ⟨W, hW⟩ : ∃ W, W = w.alloc (.cells #[.int .i64 n, .slice (some a) 256 c] 77) := ⟨_, rfl⟩
  have hal : Below w.heap.size w W := by rw [hW]; exact (Below.refl _ _).alloc (Nat.le_refl _) _
  have hbx : W.heap[w.heap.size]? = some (.cells #[.int .i64 n, .slice (some a) 256 c] 77 (0, 0)) := by rw [hW]; exact heap_alloc_new w _
  rw [← hW]
  have HBX := Aside0.mk hbx
  have HAL := Aside0.mk hal
  have HXW := Aside0.mk (HX.out.below hal)
  clear hW hal hbx
  have c0 : W.cell? ⟨db, 0, none⟩ = some (.slice (some ⟨sb, 0, none⟩) (D.safe.length * 256) cs) := by rw [← HFL.out]; exact cell_blk HXW.out.cells
  have b0 : W.cell? ⟨w.heap.size, 0, none⟩ = some (.int .i64 n) := cell_blk HBX.out
  have b1 : W.cell? ⟨w.heap.size, 1, none⟩ = some (.slice (some a) 256 c) := cell_blk HBX.out
  have hm0 : ∀ m : Go.Reg.In (fun x => x = W.drew), m.w.cell? ⟨db, 0, none⟩ = some (.slice (some ⟨sb, 0, none⟩) (D.safe.length * 256) cs) := fun m => by rw [m.h]; exact c0
  have hm1 : ∀ m : Go.Reg.In (fun x => x = W.drew), m.w.cell? ⟨w.heap.size, 0, none⟩ = some (.int .i64 n) := fun m => by rw [m.h]; exact b0
  have hroom : D.safe.length * 256 ≤ cs := by have := HX.out.room; have := HFL.out; omega
  refine Go.Reg.region (fun x => x = W.drew) [.s, .s, .s, .s, .s, .s, .x, .p] (by kernel_rfl) (by kernel_rfl) rfl (fun ne => ?_)
  refine Go.Reg.lex_q 6 _ _ _ _ (by rfl) ?_; simp only [List.take_succ_cons, List.take_zero, List.drop_succ_cons, List.drop_zero]; (repeat (go_big_quiet_step (rfl))); refine wpQuiet_nil ?_
  refine Go.Reg.step_x (by rfl) (fun K hK => ?_)
  go_wp2_with fail
  refine (block_at sb D.safe.length cs n hn (by omega) hroom).mono ?_
  rintro e w1 ⟨rfl, rfl⟩
  go_wp2_with fail
  refine hK.out _ _ ?_
  clear hK K
  refine Go.Reg.lex_qp 1 _ _ _ _ _ (by rfl) ?_; simp only [List.take_succ_cons, List.take_zero, List.drop_succ_cons, List.drop_zero]; (repeat (go_big_quiet_step (rfl))); refine wpQuiet_nil ?_
  refine Go.Reg.lex_nil ?_
  go_wp2_with fail
  clear hm0 hm1
  obtain ⟨on, hon⟩ : ∃ on : Nat → Bool, on = onM mask := ⟨_, rfl⟩
  have HON := Aside0.mk (show ∀ k, on k = (Go.bits .and .i64 (mask / 2 ^ k) 1 == 1) from fun k => by rw [hon]; rfl)
  have HONE := Aside0.mk hon
  clear hon
  go_loopg [16, 7, 8] 4 (fun g v16 v7 v8 wr => ∃ (k : Nat), Aside0 (k + g = 4) ∧ v16 = .int .i64 k ∧ Aside0 (wr.heap[sb]? = some (.cells (u8s (D.safe.set n (tornTo on (D.safe[n]'hn) bs k)).flatten ++ sp).toArray 5 (0, 0))) ∧ Aside0 (Fr (fun k => k = sb) (fun _ _ => False) W wr))
  case atStart => exact ⟨0, ⟨by omega⟩, rfl, ⟨by rw [show tornTo on (D.safe[n]'hn) bs 0 = D.safe[n]'hn from rfl, List.set_getElem_self]; exact HXW.out.safe⟩, ⟨.of_below (below_drew1 (Below.refl _ _))⟩⟩
  case round =>
    obtain ⟨k, HK, rfl, HSB, HFR⟩ := hrel
    by_cases hk : k < 4
    · have hBW : w.heap.size < W.heap.size := (Array.getElem?_eq_some_iff.1 HBX.out).1
      have hsw : sb < w.heap.size := blk_lt HX.out.safe
      have b1 : wr.cell? ⟨w.heap.size, 1, none⟩ = some (.slice (some a) 256 c) := cell_blk ((HFR.out.block _ hBW (by omega) (fun _ _ _ _ h => h)).trans HBX.out)
      cases hb : on k with
      | false =>
        have hbit : (Go.bits .and .i64 (mask / 2 ^ k) 1 == 1) = false := by rw [← HON.out]; exact hb
        go_wp2_with fail
        go_roundg (gk - 1)
        case measure => have := HK.out; omega
        case rel => exact ⟨k + 1, ⟨by have := HK.out; omega⟩, by go_num, by rw [show tornTo on (D.safe[n]'hn) bs (k + 1) = tornTo on (D.safe[n]'hn) bs k by rw [tornTo, hb]; rfl]; exact HSB, HFR⟩
      | true =>
        have hbit : (Go.bits .and .i64 (mask / 2 ^ k) 1 == 1) = true := by rw [← HON.out]; exact hb
        go_wp2_with fail
        have hm1 : ∀ m : Go.Reg.In (fun x => x = wr.drew), m.w.cell? ⟨w.heap.size, 1, none⟩ = some (.slice (some a) 256 c) := fun m => by rw [m.h]; exact b1
        have q1 : (k : Int) * 64 ≤ (k : Int) * 64 + 64 := by omega
        have q2 : (k : Int) * 64 + 64 ≤ 256 := by omega
        have q3 : (0 : Int) ≤ (k : Int) * 64 := by omega
        have q4 : (k : Int) * 64 ≤ 256 := by omega
        refine Go.Reg.region (fun x => x = wr.drew) [.s, .s, .s, .s, .s, .s, .s, .s, .s, .x] (by kernel_rfl) (by kernel_rfl) rfl (fun ne => ?_)
        refine Go.Reg.lex_q 9 _ _ _ _ (by rfl) ?_; simp only [List.take_succ_cons, List.take_zero, List.drop_succ_cons, List.drop_zero]; (repeat (go_big_quiet_step (rfl))); refine wpQuiet_nil ?_
        have hgl : (D.safe.set n (tornTo on (D.safe[n]'hn) bs k)).flatten.length = D.safe.length * 256 := by
          rw [flat_len (fun b hb => ?_), List.length_set]
          rcases List.mem_or_eq_of_mem_set hb with h | h
          · exact HX.out.ok.len b h
          · rw [h]; exact tornTo_len on _ bs (HX.out.ok.len _ (List.getElem_mem hn)) hlen k (by omega)
        have hpl : ((bs.drop (64 * k)).take 64).length = 64 := by rw [List.length_take, List.length_drop]; omega
        have hlb := lay_block HX.out.ok.len n hn (tornTo on (D.safe[n]'hn) bs k) ((bs.drop (64 * k)).take 64) (tornTo_len on _ bs (HX.out.ok.len _ (List.getElem_mem hn)) hlen k (by omega)) (64 * k) (by rw [hpl]; omega)
        have hto : lay (tornTo on (D.safe[n]'hn) bs k) (64 * k) ((bs.drop (64 * k)).take 64) = tornTo on (D.safe[n]'hn) bs (k + 1) := by
          unfold lay
          rw [hpl, show tornTo on (D.safe[n]'hn) bs (k + 1) = (tornTo on (D.safe[n]'hn) bs k).take (64 * k) ++ ((bs.drop (64 * k)).take 64 ++ (tornTo on (D.safe[n]'hn) bs k).drop (64 * k + 64)) by rw [tornTo, hb]; rfl]
        rw [hto] at hlb
        have hCW : Kd.C (Kd.int .u8) wr.drew (some a) bs.length bs := HC.out _ (fun j hj hne => (HFR.out.block j (by omega) hne (fun _ _ _ _ h => h)).trans (HAL.out.block j hj))
        obtain ⟨w7, hcp, hs7, hf7⟩ := copy_in (w := wr.drew) (g := sb) (o := n * 256 + k * 64) (dl := k * 64 + 64 - k * 64) (dc := 256 - k * 64) (sl := 256 - k * 64) (sc := c - k * 64) (a.add (k * 64)) (D.safe.set n (tornTo on (D.safe[n]'hn) bs k)).flatten ((bs.drop (64 * k)).take 64) sp HSB.out (by rw [hgl, hpl]; omega) (by rw [hpl]; show 64 = min _ _; omega) (fun j hj => by
          rw [hpl] at hj
          obtain ⟨ad, e, hcell⟩ := Kd.at_int hCW ((k * 64 + j : Nat) : Int) (by omega) (by omega)
          cases e
          rw [Int.toNat_natCast] at hcell
          rw [Go.Deep.add_add, hcell]
          congr 2
          unfold rd
          rw [Int.toNat_natCast, List.getD_eq_getElem?_getD, List.getD_eq_getElem?_getD, List.getElem?_take_of_lt (by omega), List.getElem?_drop]
          rw [show 64 * k + j = k * 64 + j by omega])
        rw [show n * 256 + k * 64 = n * 256 + 64 * k by omega] at hs7
        rw [hlb] at hs7
        rw [hpl, show k * 64 + 64 - k * 64 = 64 by omega] at hcp
        have HS7 := Aside0.mk hs7
        have HF7 := Aside0.mk (HFR.out.trans ((Fr.of_below (below_drew1 (Below.refl _ _))).trans hf7))
        clear hs7 hf7 hlb hto hCW hgl hpl
        refine Go.Reg.step_x (by rfl) (fun K hK => ?_)
        go_wp2_with fail
        refine hK.out _ _ ?_
        clear hK K
        refine Go.Reg.lex_nil ?_
        go_wp2_with fail
        go_roundg (gk - 1)
        case measure => have := HK.out; omega
        case rel => exact ⟨k + 1, ⟨by have := HK.out; omega⟩, by go_num, HS7, HF7⟩
    · have hk4 : k = 4 := by have := HK.out; omega
      subst hk4
      go_wp2_with fail
      go_end0
      have hgl : (D.safe.set n (tornTo on (D.safe[n]'hn) bs 4)).flatten.length = D.safe.flatten.length := by
        have ho := (ok_set HX.out.ok n (tornTo on (D.safe[n]'hn) bs 4) (tornTo_len _ _ _ (HX.out.ok.len _ (List.getElem_mem hn)) hlen 4 (Nat.le_refl _)) (tornTo_byte _ _ _ (HX.out.ok.byte _ (List.getElem_mem hn)) HBY.out 4))
        rw [flat_len ho.len, HFL.out, List.length_set]
      have hfr := (Fr.of_below (bs := fun k => k = sb) (ts := fun _ _ => False) HAL.out).trans HFR.out
      refine ⟨⟨_, rfl⟩, ⟨vw, cs, sp, ?_⟩, hfr⟩
      rw [Int.toNat_natCast]
      have hto := tear_ok HX.out.ok n hn bs hlen HBY.out mask
      have hde : tearD D n bs mask = { D with safe := D.safe.set n (tornTo on (D.safe[n]'hn) bs 4) } := by
        unfold tearD
        rw [getD_get n hn, HONE.out]
      rw [hde] at hto ⊢
      refine ⟨hto, HX.out.dbase, HX.out.sbase, ?_, ?_, HSB.out, ?_⟩
      · show wr.heap[db]? = some (Obj.cells #[.slice (some ⟨sb, 0, none⟩) (D.safe.set n (tornTo on (D.safe[n]'hn) bs 4)).flatten.length cs, _, _, _, _, _, _] _ _)
        rw [hgl]
        exact (hfr.block db (blk_lt HX.out.cells) HX.out.ne (fun _ _ _ _ h => h)).trans HX.out.cells
      · exact Kd.R_step HX.out.waits (fun j hj hlt => hfr.block j hlt hj (fun _ _ _ _ h => h))
      · show (D.safe.set n (tornTo on (D.safe[n]'hn) bs 4)).flatten.length + sp.length = cs
        rw [hgl]
        exact HX.out.room
end Disk
end Go.Proofs.Ytooemgcijbdilaa
