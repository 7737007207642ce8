import Derived.Test.YtkfbegmfepehiaaZKx
import Derived.Test.YtkfbegmfepehiaaZQs1
import Derived.WalkKit
import Derived.KernelRfl
import Derived.RowKit3
import Derived.Deep.Slices
import Derived.Below
import Derived.Lib.Hide
import Derived.OwnWalk
import Derived.Deep.LoopGhost
import Derived.Deep.QuietTactic
import Derived.BigQuiet
import Derived.WideLaws
import Derived.Great.BuildSlice
import Derived.Outline
import Derived.Deep.DeepCutAuto
import Derived.WalkSpells
import Derived.RegionTactic
import Derived.BigRegion
import Derived.WalkLawsBesides
import Derived.IntWalk
import Derived.Lib.AppendZerosOnto
namespace Go.Proofs.Ytkfbegmfepehiaa
set_option linter.unusedVariables false
set_option linter.unusedSimpArgs false
set_option linter.ambiguousOpen false
open Go.RowKit Go.Proofs.YtkfbegmfepehiaaW.PrintWords Go.Proofs.YtkfbegmfepehiaaW.PrintLast Go.Proofs.YtkfbegmfepehiaaW.PrintMore
namespace Sect
open Go.Num Go.Crc PCellGets Go.Proofs.Ytkfbegmfepehiaa.Cell
theorem take_byte {l : List Int} (hb : ∀ x ∈ l, 0 ≤ x ∧ x ≤ 255) (i k : Nat) : ∀ x ∈ (l.drop i).take k, 0 ≤ x ∧ x ≤ 255 := fun x hx => hb x (List.mem_of_mem_drop (List.mem_of_mem_take hx))
theorem open_err (l : List Int) : (openP l).2 = 0 ∨ (openP l).2 = 12 := by
  unfold openP
  split
  · exact .inr rfl
  · exact .inl rfl
theorem open_len (l : List Int) (h : (openP l).2 = 0) : (openP l).1 = l.take (l.length - 4) ∧ 4 ≤ l.length := by
  unfold openP at *
  split at h
  · cases h
  · rename_i hn
    rw [if_neg hn]
    exact ⟨rfl, by omega⟩
theorem rowN {w : World} {b t : Nat} {x : Int} (hb : w.heap[b]? = some (.cells #[.int .u8 x] t (0, 0))) : Kd.C (Kd.int .u8) w (some ⟨b, 0, none⟩) 1 [x] := by
  refine Kd.C_of_reads (enc := fun x => Value.int .u8 x) (d := (0:Int)) (h1 := fun _ => rfl) ⟨rfl, by decide, fun _ => ⟨_, rfl, fun j hj => ?_⟩⟩
  obtain rfl : j = 0 := by omega
  have : (⟨b, 0, none⟩ : Addr).add 0 = ⟨b, 0, none⟩ := by unfold Addr.add; simp
  rw [this, cell_blk hb]
  rfl
theorem unfix_any {w : World} (A : Option Addr) (c : Nat) (l : List Int) (hC : Kd.C (Kd.int .u8) w A l.length l) (hc : l.length ≤ c) (hb : ∀ x ∈ l, 0 ≤ x ∧ x ≤ 255) :
    Calls Try.prog 42 #[.slice A l.length c] w fun e w' => e = .returned (.tuple #[.int .i64 (unfixP l).1, .int .i64 (unfixP l).2]) ∧ Below w.heap.size w w' :=
  (num_Unfix.calls 7 A c l _ _ w hC hc (unfix_plain 0 l hb)).mono (fun _ _ h => ⟨h.1, h.2.below⟩)
theorem R_bnd {w : World} {base t : Nat} {ok : Nat → Prop} {v : Value} {xs : List Int} (h : Kd.R (Kd.int .u8) t w base ok v xs) : Kd.R (Kd.int .u8) t w base (fun k => base ≤ k) v xs := Kd.R_mono (Kd.R_bound h) (fun k hk => hk.2.1)
theorem only_trans' {b : Nat} {x y z : World} (h : Only b x y) (k : Below x.heap.size y z) : Only b x z :=
  ⟨k.os.trans h.os, k.tape.trans h.tape, k.output.trans h.output, Nat.le_trans h.size k.size, fun q hq hn => (k.block q hq).trans (h.block q hq hn)⟩
theorem pc_lt {w : World} {base cb : Nat} {bs : List Int} {bad : Bool} (h : PC w base cb bs bad) : cb < w.heap.size ∧ base ≤ cb := by
  unfold PC at h
  cases bad with
  | true => exact ⟨blk_lt h.2.2, h.1⟩
  | false => obtain ⟨_, _, _, _, _, h⟩ := h; exact ⟨blk_lt h.cells, h.cbase⟩
theorem open_seal (l : List Int) : openP (sealB l) = (l, 0) := by
  unfold openP
  have e : (sealB l).length - 4 = l.length := by rw [seal_len]; omega
  rw [e, if_neg]
  · unfold sealB
    rw [List.take_left]
  · rintro (h | h)
    · rw [seal_len] at h; omega
    · apply h
      unfold sealB
      rw [List.drop_left, List.take_left]
theorem unfix_le (n : Int) (h0 : 0 ≤ n) (h1 : n ≤ 2147483647) (k : Nat) (hk1 : 1 ≤ k) (hk : k ≤ 4) (hs : n < 256 ^ k) : unfixP (leB n k) = (n, 0) := by
  unfold unfixP
  rw [leB_len, if_neg (by omega), unB_leB_small n k h0 hs, if_neg (by omega)]
theorem maxL_rep (k : Nat) : maxL (List.replicate k 0) = 0 := by
  induction k with
  | zero => rfl
  | succ k ih => rw [List.replicate_succ]; simp [maxL, ih]
theorem cut2 {a b l : List Int} (k : Nat) (h : l = a ++ b) (hk : a.length = k) : l.take k = a ∧ l.drop k = b := by
  subst h; subst hk
  exact ⟨List.take_left, List.drop_left⟩
theorem wrap_id (z : Int) (h0 : -9223372036854775808 ≤ z) (h1 : z ≤ 9223372036854775807) : wrap64 z = z := by
  first | (unfold wrap64; omega) | (simp [wrap64]; omega)
theorem nilC (x : World) : Kd.C (Kd.int .u8) x none 0 [] := ⟨rfl, by decide, fun h => absurd h (by decide)⟩
end Sect
end Go.Proofs.Ytkfbegmfepehiaa
namespace Go.Proofs.Ytkfbegmfepehiaa
set_option linter.unusedVariables false
set_option linter.unusedSimpArgs false
open Go.RowKit Go.Proofs.YtkfbegmfepehiaaW.PrintWords Go.Proofs.YtkfbegmfepehiaaW.PrintLast Go.Proofs.YtkfbegmfepehiaaW.PrintMore
namespace Sect
set_option linter.ambiguousOpen false
open Go.Num Go.Crc Go.Proofs.Ytkfbegmfepehiaa.Cell
def secOk (k e n l : Int) (d : List Int) : Bool := decide (1 ≤ k ∧ k ≤ 255 ∧ 0 ≤ l ∧ l ≤ 65535 ∧ 0 ≤ e ∧ e ≤ 2147483647 ∧ 0 ≤ n ∧ n ≤ 2147483647 ∧ d.length ≤ 48)
theorem within_plain (n a b : Int) : PSectorGets.sector_within.f n a b = some (decide (a ≤ n ∧ n < b)) := by
  unfold PSectorGets.sector_within.f
  by_cases h : n ≥ a
  · rw [if_pos h]; congr 1; exact decide_eq_decide.2 (by omega)
  · rw [if_neg h]; congr 1; exact (decide_eq_false (by omega)).symm
theorem may_plain (k e n l : Int) (d : List Int) : PSectorGets.sector_may.f k e n l d = some (secOk k e n l d) := by
  unfold PSectorGets.sector_may.f secOk
  simp only [within_plain, Option.bind_some]
  repeat' split
  all_goals first | (congr 1; exact decide_eq_decide.2 (by simp_all; omega)) | (congr 1; exact (decide_eq_false (by simp_all; omega)).symm) | (congr 1; exact (decide_eq_false (fun hh => by simp_all; omega)).symm)
def headS (k e n l : Int) (d : List Int) : List Int := leB k 1 ++ (leB (d.length : Int) 1 ++ (leB l 2 ++ (leB e 4 ++ leB n 4)))
def bodyS (k e n l : Int) (d : List Int) : List Int := (headS k e n l d ++ d) ++ List.replicate (48 - d.length) 0
theorem headS_len (k e n l : Int) (d : List Int) : (headS k e n l d).length = 12 := by simp [headS, leB_len]
theorem bodyS_len (k e n l : Int) (d : List Int) (hd : d.length ≤ 48) : (bodyS k e n l d).length = 60 := by
  unfold bodyS
  rw [List.length_append, List.length_append, headS_len, List.length_replicate]
  omega
theorem headS_byte (k e n l : Int) (d : List Int) : ∀ y ∈ headS k e n l d, 0 ≤ y ∧ y ≤ 255 := by
  intro y hy
  unfold headS at hy
  rcases List.mem_append.1 hy with h | h
  · exact leB_byte _ _ y h
  rcases List.mem_append.1 h with h | h
  · exact leB_byte _ _ y h
  rcases List.mem_append.1 h with h | h
  · exact leB_byte _ _ y h
  rcases List.mem_append.1 h with h | h
  · exact leB_byte _ _ y h
  · exact leB_byte _ _ y h
theorem bodyS_byte (k e n l : Int) (d : List Int) (hb : ∀ y ∈ d, 0 ≤ y ∧ y ≤ 255) : ∀ y ∈ bodyS k e n l d, 0 ≤ y ∧ y ≤ 255 := by
  intro y hy
  unfold bodyS at hy
  rcases List.mem_append.1 hy with h | h
  · rcases List.mem_append.1 h with h | h
    · exact headS_byte _ _ _ _ _ y h
    · exact hb y h
  · rw [(List.mem_replicate.1 h).2]; omega
def putS (k e n l : Int) (d : List Int) : List Int × Int := if secOk k e n l d = true then (sealB (bodyS k e n l d), 0) else ([], 1)
theorem fix_ok (n : Int) (j : Nat) (hj : j = 1 ∨ j = 2 ∨ j = 4) (h : 0 ≤ n ∧ n < 256 ^ j ∧ n ≤ 2147483647) : fixP n (j : Int) = (leB n j, 0) := by
  unfold fixP
  rcases hj with rfl | rfl | rfl
  · rw [if_neg (by rw [show (256 : Int) ^ (((1 : Nat) : Int)).toNat = 256 from by decide]; omega)]; rfl
  · rw [if_neg (by rw [show (256 : Int) ^ (((2 : Nat) : Int)).toNat = 65536 from by decide]; omega)]; rfl
  · rw [if_neg (by rw [show (256 : Int) ^ (((4 : Nat) : Int)).toNat = 4294967296 from by decide]; omega)]; rfl
theorem fixk_any (n : Int) (j : Nat) (w : World) (hj : j = 1 ∨ j = 2 ∨ j = 4) (h : 0 ≤ n ∧ n < 256 ^ j ∧ n ≤ 2147483647) :
    Calls Try.prog 35 #[.int .i64 n, .int .i64 (j : Int)] w fun e w' => ∃ v, e = .returned (.tuple #[v, .int .i64 0]) ∧ Kd.R (Kd.int .u8) 5 w' w.heap.size (fun _ => True) v (leB n j) ∧ Below w.heap.size w w' := by
  have hf := fix_ok n j hj h
  rcases hj with rfl | rfl | rfl
  · have := fix1_any n w (by omega)
    rw [show ((1 : Nat) : Int) = 1 from rfl] at hf ⊢
    rw [hf] at this
    exact this
  · have := fix2_any n w (by omega)
    rw [show ((2 : Nat) : Int) = 2 from rfl] at hf ⊢
    rw [hf] at this
    exact this
  · have := fix4_any n w (by omega)
    rw [show ((4 : Nat) : Int) = 4 from rfl] at hf ⊢
    rw [hf] at this
    exact this
structure PB (w0 w : World) (b : Nat) (xs : List Int) (A : Option Addr) (c : Nat) : Prop where
  below : Below w0.heap.size w0 w
  at_b : w.heap[b]? = some (.cells #[.slice A xs.length c] 22 (0, 0))
  base : w0.heap.size ≤ b
  row : Kd.R (Kd.int .u8) 5 w w0.heap.size (fun _ => True) (.slice A xs.length c) xs
theorem PB.lt {w0 w : World} {b c : Nat} {xs : List Int} {A : Option Addr} (h : PB w0 w b xs A c) : b < w.heap.size := blk_lt h.at_b
theorem PB.step {w0 w w' : World} {b c : Nat} {xs : List Int} {A : Option Addr} (h : PB w0 w b xs A c) (hb : Below w.heap.size w w') : PB w0 w' b xs A c :=
  ⟨h.below.trans (hb.mono h.below.size), (hb.block _ h.lt).trans h.at_b, h.base, Kd.R_below h.row hb⟩
theorem one_set {w : World} {b t : Nat} {a0 : Value} (h : w.heap[b]? = some (.cells #[a0] t (0, 0))) (v0 : Value) : (w.setCell ⟨b, 0, none⟩ v0).heap[b]? = some (.cells #[v0] t (0, 0)) := by
  have := blk_set h 0 v0
  rw [this]
  rfl
theorem R_setne {w : World} {base b t : Nat} {cs : Array Value} {v u : Value} {xs : List Int} (h : Kd.R (Kd.int .u8) 5 w base (fun _ => True) v xs) (hb : w.heap[b]? = some (.cells cs t (0, 0))) (ht : t ≠ 5) : Kd.R (Kd.int .u8) 5 (w.setCell ⟨b, 0, none⟩ u) base (fun _ => True) v xs :=
  Kd.R_mono (Kd.R_step (Kd.R_bound h) (fun k hk hlt => Below.heap_setCell w ⟨b, 0, none⟩ u k (fun e => by
    obtain ⟨_, _, _, q, hq, cells, hcl⟩ := hk
    have e : k = b := e
    rw [e, hb] at hcl
    cases hcl
    simp [Kd.int, Kd.scalar] at hq
    exact ht hq))) (fun _ _ => trivial)
set_option maxHeartbeats 8000000 in
set_option maxRecDepth 100000 in
theorem put1_any {w0 w : World} {b c : Nat} {xs : List Int} {A : Option Addr} (h : PB w0 w b xs A c) (n : Int) (j : Nat) (hj : j = 1 ∨ j = 2 ∨ j = 4) (hn : 0 ≤ n ∧ n < 256 ^ j ∧ n ≤ 2147483647) (hx : xs.length ≤ 1000) :
    Calls Try.prog 52 #[.int .i64 n, .int .i64 (j : Int), .pointer (some ⟨b, 0, none⟩)] w fun e w' => (∃ v, e = .returned v) ∧ ∃ A' c', PB w0 w' b (xs ++ leB n j) A' c' ∧ ∀ (i t : Nat) (cs : Array Value), t ≠ 5 → i ≠ b → w.heap[i]? = some (.cells cs t (0, 0)) → w'.heap[i]? = some (.cells cs t (0, 0)) := by
  have H := Aside0.mk h
  clear h
  obtain ⟨J, hJ⟩ : ∃ J : Int, J = (j : Int) := ⟨_, rfl⟩
  have HFX := fixk_any n j w hj hn
  rw [← hJ] at HFX
  have HF := Aside0.mk HFX
  rw [← hJ]
  clear HFX hJ
  go_enter Try.func52, Try.ntmps52
  go_wp2_with fail
  refine HF.out.mono ?_
  clear HF
  rintro e w1 ⟨v1, rfl, hr1, b1⟩
  obtain ⟨A1, c1, rfl⟩ := Kd.R_slice hr1
  have H1 := Aside0.mk (H.out.step b1)
  have HC1 := Aside0.mk (row_at hr1)
  have HK := Aside0.mk (show ∀ (i t : Nat) (cs : Array Value), t ≠ 5 → i ≠ b → w.heap[i]? = some (.cells cs t (0, 0)) → w1.heap[i]? = some (.cells cs t (0, 0)) from fun i t cs _ _ hi => (b1.block _ (blk_lt hi)).trans hi)
  have hl1 := leB_len n j
  rw [hl1]
  have HL1 := Aside0.mk hl1
  have q0 : w1.cell? ⟨b, 0, none⟩ = some (.slice A xs.length c) := cell_blk H1.out.at_b
  clear hr1 b1 H hl1
  go_wp2_with ((with_reducible refine gate_builtin (b := .append) (xs := #[.tmp 13, .tmp 14]) rfl ?_); at_builtin; refine Hid.out ?_)
  refine Lib.hid ?_
  refine Kd.R_append_rows (Kd.int .u8) (Rr := (Kd.int .u8).K w1) (w0 := w0) w0.heap.size rfl (.tmp 13) (.tmp 14) 22 5 (.int .u8 0) 1 rfl Try.underlying22 infoU8 rfl (by decide) (by omega) (.slice A xs.length c) xs (leB n j) A1 j c1 (fun _ => True) (fun _ => False) rfl rfl H1.out.row (by have := HC1.out; rw [HL1.out] at this; exact this) (fun x cs h => h) (fun _ hk => hk.elim) (fun _ _ => trivial) H1.out.below H1.out.below.size (by rcases hj with rfl | rfl | rfl <;> (show (xs.length + _) * 1 ≤ _; omega)) ?_
  intro v2 w2 ho hb hg _
  obtain ⟨A2, c2, rfl⟩ := Kd.R_slice ho
  have hb2 : w2.heap[b]? = some (.cells #[.slice A xs.length c] 22 (0, 0)) := (hg.block b H1.out.lt (Kd.R_ne H1.out.row H1.out.at_b (by decide))).trans H1.out.at_b
  have HB2 := Aside0.mk hb2
  have HK2 := Aside0.mk (show ∀ (i t : Nat) (cs : Array Value), t ≠ 5 → i ≠ b → w.heap[i]? = some (.cells cs t (0, 0)) → w2.heap[i]? = some (.cells cs t (0, 0)) from fun i t cs ht hi hc => by
    have := HK.out i t cs ht hi hc
    exact (hg.block i (blk_lt this) (Kd.R_ne H1.out.row this (Ne.symm ht))).trans this)
  have HO2 := Aside0.mk ho
  have HW2 := Aside0.mk hb
  have HBB := Aside0.mk H1.out.base
  have f0 : w2.frozen? ⟨b, 0, none⟩ = false := frozen_blk hb2
  have g0 : w2.cell? ⟨b, 0, none⟩ = some (.slice A xs.length c) := cell_blk hb2
  clear ho hb hg H1 hb2 HK HC1 q0
  go_wp2_with fail
  go_end0
  refine ⟨⟨_, rfl⟩, A2, c2, ⟨HW2.out.setCell HBB.out _, ?_, HBB.out, R_setne HO2.out HB2.out (by decide)⟩, fun i t cs ht hi hc => ?_⟩
  · rw [List.length_append]
    exact one_set HB2.out _
  · exact (Below.heap_setCell w2 ⟨b, 0, none⟩ _ i hi).trans (HK2.out i t cs ht hi hc)
theorem makeSlice0 (W : World) : (Instr.makeSlice 22 (.int .i64 0) (.int .i64 64)).run Try.prog W = .ok (.slice (some ⟨W.heap.size, 0, none⟩) 0 64) (W.alloc (.cells (madeCells #[.int .u8 0] 64) 5)) := by
  have hinfo := infoU8
  cases hi : Try.prog.info? 5 with
  | none => rw [hi] at hinfo; simp at hinfo
  | some i =>
    rw [hi] at hinfo
    simp only [Option.map_some, Option.some.injEq, Prod.mk.injEq] at hinfo
    obtain ⟨hz, hs, hb⟩ := hinfo
    have := run_makeSlice (w := W) (P := Try.prog) 22 5 i (.int .u8 0) Try.underlying22 hi hz .i64 .i64 0 64 (by decide) (by decide) (by rw [hs]; decide) (by rw [hb]; decide) (by decide)
    rw [hs] at this
    exact this
theorem fresh0 (w0 W : World) (hb : Below w0.heap.size w0 W) : PB w0 ((W.alloc (.cells (madeCells #[.int .u8 0] 64) 5)).alloc (.cells #[.slice (some ⟨W.heap.size, 0, none⟩) 0 64] 22)) (W.heap.size + 1) [] (some ⟨W.heap.size, 0, none⟩) 64 := by
  have h1 : (W.alloc (.cells (madeCells #[.int .u8 0] 64) 5)).heap[W.heap.size]? = some (.cells (([] : List Int).map (Value.int .u8) ++ (List.replicate 64 (0 : Int)).map (Value.int .u8)).toArray 5 (0, 0)) := by
    rw [made8]
    exact heap_alloc_new W _
  have b2 : Below (W.alloc (.cells (madeCells #[.int .u8 0] 64) 5)).heap.size (W.alloc (.cells (madeCells #[.int .u8 0] 64) 5)) ((W.alloc (.cells (madeCells #[.int .u8 0] 64) 5)).alloc (.cells #[.slice (some ⟨W.heap.size, 0, none⟩) 0 64] 22)) := (Below.refl _ _).alloc (Nat.le_refl _) _
  refine ⟨(hb.alloc hb.size _).alloc (Nat.le_trans hb.size (by simp)) _, ?_, Nat.le_trans hb.size (by omega), ?_⟩
  · have := heap_alloc_new (W.alloc (.cells (madeCells #[.int .u8 0] 64) 5)) (.cells #[.slice (some ⟨W.heap.size, 0, none⟩) 0 64] 22)
    rw [World.size_alloc] at this
    exact this
  · exact Kd.R_below (row_of (xs := []) (cap := 64) (ok := fun _ => True) h1 hb.size trivial (by simp) (by decide)) b2
theorem cells5 {x : World} {b t : Nat} {v0 v1 v2 v3 v4 : Value} (h : x.heap[b]? = some (.cells #[v0, v1, v2, v3, v4] t (0, 0))) : x.cell? ⟨b, 0, none⟩ = some v0 ∧ x.cell? ⟨b, 1, none⟩ = some v1 ∧ x.cell? ⟨b, 2, none⟩ = some v2 ∧ x.cell? ⟨b, 3, none⟩ = some v3 ∧ x.cell? ⟨b, 4, none⟩ = some v4 := ⟨cell_blk h, cell_blk h, cell_blk h, cell_blk h, cell_blk h⟩
theorem ok_parts {k e n l : Int} {d : List Int} (h : secOk k e n l d = true) : 1 ≤ k ∧ k ≤ 255 ∧ 0 ≤ l ∧ l ≤ 65535 ∧ 0 ≤ e ∧ e ≤ 2147483647 ∧ 0 ≤ n ∧ n ≤ 2147483647 ∧ d.length ≤ 48 := by
  unfold secOk at h
  exact of_decide_eq_true h
set_option maxHeartbeats 8000000 in
set_option maxRecDepth 100000 in
theorem put_any {w : World} (k e n l : Int) (A : Option Addr) (c : Nat) (d : List Int) (hC : Kd.C (Kd.int .u8) w A d.length d) (hc : d.length ≤ c) (hb : ∀ y ∈ d, 0 ≤ y ∧ y ≤ 255) :
    Calls Try.prog 23 #[.agg #[.int .i64 k, .int .i64 e, .int .i64 n, .int .i64 l, .slice A d.length c]] w fun r w' => ∃ v, r = .returned (.tuple #[v, .int .i64 (putS k e n l d).2]) ∧ Kd.R (Kd.int .u8) 5 w' w.heap.size (fun _ => True) v (putS k e n l d).1 ∧ Below w.heap.size w w' := by
  have HC := Aside0.mk hC
  have HBY := Aside0.mk hb
  clear hC hb
  obtain ⟨R, hR⟩ : ∃ R, R = putS k e n l d := ⟨_, rfl⟩
  rw [← hR]
  obtain ⟨W, hW⟩ : ∃ W, W = w.alloc (.cells #[.int .i64 k, .int .i64 e, .int .i64 n, .int .i64 l, .slice A d.length c] 44) := ⟨_, rfl⟩
  have HB0 := Aside0.mk (show Below w.heap.size w W by rw [hW]; exact (Below.refl _ _).alloc (Nat.le_refl _) _)
  have hbx : W.heap[w.heap.size]? = some (.cells #[.int .i64 k, .int .i64 e, .int .i64 n, .int .i64 l, .slice A d.length c] 44 (0, 0)) := by rw [hW]; exact heap_alloc_new w _
  have HBX := Aside0.mk hbx
  have HWE := Aside0.mk hW
  clear hW hbx
  obtain ⟨b, hbo⟩ : ∃ b, b = secOk k e n l d := ⟨_, rfl⟩
  have hmay := PSectorGets.sector_may.calls k e n l A c d b W (Kd.C_below HC.out HB0.out) hc (by rw [may_plain, hbo])
  have HM := Aside0.mk hmay
  clear hmay
  cases b with
  | false =>
    have HQ := Aside0.mk (show R = ([], 1) by rw [hR]; unfold putS; rw [← hbo]; rfl)
    clear hR hbo
    go_enter Try.func23, Try.ntmps23
    go_wp2_with fail
    rw [← HWE.out]
    refine HM.out.mono ?_
    rintro e w1 ⟨rfl, b1⟩
    have HB1 := Aside0.mk (HB0.out.trans (b1.mono HB0.out.size))
    clear b1
    go_wp2_with fail
    go_ret2
    exact ⟨_, by rw [HQ.out]; rfl, by rw [HQ.out]; exact Kd.R_nil _ _ _ _ _, HB1.out⟩
  | true =>
    have hok := ok_parts hbo.symm
    have HQ := Aside0.mk (show R = (sealB (bodyS k e n l d), 0) by rw [hR]; unfold putS; rw [← hbo]; rfl)
    clear hR hbo
    have hm0 := makeSlice0
    go_enter Try.func23, Try.ntmps23
    go_wp2_with fail
    rw [← HWE.out]
    refine HM.out.mono ?_
    rintro e w1 ⟨rfl, b1⟩
    have k1 := (b1.block _ (blk_lt HBX.out)).trans HBX.out
    have HB1 := Aside0.mk (HB0.out.trans (b1.mono HB0.out.size))
    have HK1 := Aside0.mk k1
    have hcl : ∀ ob ob', ((w1.alloc ob).alloc ob').heap[w.heap.size]? = some (.cells #[.int .i64 k, .int .i64 e, .int .i64 n, .int .i64 l, .slice A d.length c] 44 (0, 0)) := fun ob ob' => (Below.heap_alloc _ _ _ (by have := blk_lt k1; simp; omega)).trans ((Below.heap_alloc _ _ _ (blk_lt k1)).trans k1)
    have c0 : ∀ ob ob', ((w1.alloc ob).alloc ob').cell? ⟨w.heap.size, 0, none⟩ = some (.int .i64 k) := fun ob ob' => (cells5 (hcl ob ob')).1
    have HCL := Aside0.mk hcl
    clear b1 k1 hcl
    go_wp2_with fail
    clear c0
    obtain ⟨w2, hw2⟩ : ∃ w2, w2 = ((w1.alloc (.cells (madeCells #[.int .u8 0] 64) 5)).alloc (.cells #[.slice (some ⟨w1.heap.size, 0, none⟩) 0 64] 22)) := ⟨_, rfl⟩
    have hp2 := fresh0 w w1 HB1.out
    have hk2 := HCL.out (.cells (madeCells #[.int .u8 0] 64) 5) (.cells #[.slice (some ⟨w1.heap.size, 0, none⟩) 0 64] 22)
    rw [← hw2] at hp2 hk2 ⊢
    have hne : w.heap.size ≠ w1.heap.size + 1 := by have := HB1.out.size; omega
    obtain ⟨g, hg⟩ : ∃ g, g = w1.heap.size + 1 := ⟨_, rfl⟩
    rw [← hg] at hp2 hne ⊢
    have HNE := Aside0.mk hne
    have HP2 := Aside0.mk hp2
    have HK2 := Aside0.mk hk2
    clear hw2 hp2 hk2 hg hne HCL
    rw [show (1 : Int) = ((1 : Nat) : Int) from rfl]
    refine (put1_any HP2.out k 1 (by decide) (by omega) (by simp [leB_len])).mono ?_
    rintro r w3 ⟨⟨v3, rfl⟩, A3, c3, hp3, hf3⟩
    have HP3 := Aside0.mk hp3
    have HK3 := Aside0.mk (hf3 _ _ _ (by decide) HNE.out HK2.out)
    clear hp3 hf3 HP2 HK2
    obtain ⟨-, e1, e2, e3, e4⟩ := cells5 HK3.out
    go_wp2_with fail
    clear e1 e2 e3 e4
    rw [show (1 : Int) = ((1 : Nat) : Int) from rfl]
    refine (put1_any HP3.out (d.length : Int) 1 (by decide) (by omega) (by simp [leB_len])).mono ?_
    rintro r w4 ⟨⟨v4, rfl⟩, A4, c4, hp4, hf4⟩
    have HP4 := Aside0.mk hp4
    have HK4 := Aside0.mk (hf4 _ _ _ (by decide) HNE.out HK3.out)
    clear hp4 hf4 HP3 HK3
    obtain ⟨-, e1, e2, e3, e4⟩ := cells5 HK4.out
    go_wp2_with fail
    clear e1 e2 e3 e4
    rw [show (2 : Int) = ((2 : Nat) : Int) from rfl]
    refine (put1_any HP4.out l 2 (by decide) (by omega) (by simp [leB_len])).mono ?_
    rintro r w5 ⟨⟨v5, rfl⟩, A5, c5, hp5, hf5⟩
    have HP5 := Aside0.mk hp5
    have HK5 := Aside0.mk (hf5 _ _ _ (by decide) HNE.out HK4.out)
    clear hp5 hf5 HP4 HK4
    obtain ⟨-, e1, e2, e3, e4⟩ := cells5 HK5.out
    go_wp2_with fail
    clear e1 e2 e3 e4
    rw [show (4 : Int) = ((4 : Nat) : Int) from rfl]
    refine (put1_any HP5.out e 4 (by decide) (by omega) (by simp [leB_len])).mono ?_
    rintro r w6 ⟨⟨v6, rfl⟩, A6, c6, hp6, hf6⟩
    have HP6 := Aside0.mk hp6
    have HK6 := Aside0.mk (hf6 _ _ _ (by decide) HNE.out HK5.out)
    clear hp6 hf6 HP5 HK5
    obtain ⟨-, e1, e2, e3, e4⟩ := cells5 HK6.out
    go_wp2_with fail
    clear e1 e2 e3 e4
    rw [show (4 : Int) = ((4 : Nat) : Int) from rfl]
    refine (put1_any HP6.out n 4 (by decide) (by omega) (by simp [leB_len])).mono ?_
    rintro r w7 ⟨⟨v7, rfl⟩, A7, c7, hp7, hf7⟩
    have HP7 := Aside0.mk hp7
    have HK7 := Aside0.mk (hf7 _ _ _ (by decide) HNE.out HK6.out)
    clear hp7 hf7 HP6 HK6
    have HP := Aside0.mk (show PB w w7 g (headS k e n l d) A7 c7 by have := HP7.out; rw [show ((((([] : List Int) ++ leB k 1) ++ leB (d.length : Int) 1) ++ leB l 2) ++ leB e 4) ++ leB n 4 = headS k e n l d by simp [headS]] at this; exact this)
    clear HP7
    obtain ⟨-, -, -, -, e4⟩ := cells5 HK7.out
    have q0 : w7.cell? ⟨g, 0, none⟩ = some (.slice A7 12 c7) := by have := HP.out.at_b; rw [headS_len] at this; exact cell_blk this
    go_wp2_with ((with_reducible refine gate_builtin (b := .append) (xs := #[.tmp 32, .tmp 34]) rfl ?_); at_builtin; refine Hid.out ?_)
    refine Lib.hid ?_
    have hrow : Kd.R (Kd.int .u8) 5 w7 w.heap.size (fun _ => True) (.slice A7 12 c7) (headS k e n l d) := by have := HP.out.row; rw [headS_len] at this; exact this
    refine Kd.R_append_rows (Kd.int .u8) (Rr := (Kd.int .u8).K w7) (w0 := w) w.heap.size rfl (.tmp 32) (.tmp 34) 22 5 (.int .u8 0) 1 rfl Try.underlying22 infoU8 rfl (by decide) (by omega) (.slice A7 12 c7) (headS k e n l d) d A d.length c (fun _ => True) (fun _ => False) rfl rfl hrow (Kd.C_below HC.out HP.out.below) (fun x cs h => h) (fun _ hk => hk.elim) (fun _ _ => trivial) HP.out.below HP.out.below.size (by rw [headS_len]; omega) ?_
    intro v8 w8 ho hb hg _
    obtain ⟨A8, c8, rfl⟩ := Kd.R_slice ho
    have hb8 : w8.heap[g]? = some (.cells #[.slice A7 12 c7] 22 (0, 0)) := by
      have h0 := HP.out.at_b
      rw [headS_len] at h0
      exact (hg.block g (blk_lt h0) (Kd.R_ne hrow h0 (by decide))).trans h0
    have HB8 := Aside0.mk hb8
    have HO8 := Aside0.mk ho
    have HW8 := Aside0.mk hb
    have HGB := Aside0.mk HP.out.base
    have f0 : w8.frozen? ⟨g, 0, none⟩ = false := frozen_blk hb8
    have g0 : w8.cell? ⟨g, 0, none⟩ = some (.slice A7 12 c7) := cell_blk hb8
    have hl8 : (headS k e n l d ++ d).length = 12 + d.length := by rw [List.length_append, headS_len]
    have HL8 := Aside0.mk hl8
    rw [hl8]
    clear ho hb hg hb8 HP hrow e4 q0 hl8
    go_wp2_with ((with_reducible refine gate_builtin (b := .append) (xs := #[.tmp 36, .tmp 39]) rfl ?_); at_builtin; refine Hid.out ?_)
    refine Lib.hid ?_
    obtain ⟨w9, hw9⟩ : ∃ w9, w9 = w8.setCell ⟨g, 0, none⟩ (.slice A8 (12 + d.length) c8) := ⟨_, rfl⟩
    have HW9 := Aside0.mk (show Below w.heap.size w w9 by rw [hw9]; exact HW8.out.setCell HGB.out _)
    have HO9 := Aside0.mk (show Kd.R (Kd.int .u8) 5 w9 w.heap.size (fun _ => True) (.slice A8 (12 + d.length) c8) (headS k e n l d ++ d) by
      rw [hw9, ← HL8.out]
      exact R_setne HO8.out HB8.out (by decide))
    rw [← hw9]
    clear hw9 HO8 HB8 HW8 f0 g0
    refine Kd.R_append_zeros (Kd.int .u8) (w0 := w) w.heap.size rfl (.tmp 36) (.tmp 39) 22 3 5 (.int .u8 0) 1 rfl Try.underlying22 Try.underlying3 infoU8 rfl (by decide) (by omega) (.slice A8 (12 + d.length) c8) (headS k e n l d ++ d) 0 (kx := .i64) (60 - (12 + (d.length : Int))) (fun _ => True) rfl rfl rfl (fun _ _ => trivial) HO9.out (by omega) HW9.out HW9.out.size (by rw [HL8.out]; omega) ?_
    intro v10 w10 ho hb _ _
    rw [show (60 - (12 + (d.length : Int))).toNat = 48 - d.length by omega] at ho
    have HO10 := Aside0.mk (show Kd.R (Kd.int .u8) 5 w10 w.heap.size (fun _ => True) v10 (bodyS k e n l d) from ho)
    have HW10 := Aside0.mk hb
    clear ho hb
    obtain ⟨A10, c10, rfl⟩ := Kd.R_slice HO10.out
    have hbl := bodyS_len k e n l d (by omega)
    have HBL := Aside0.mk hbl
    go_wp2_with fail
    have hsl := seal_any A10 c10 (bodyS k e n l d) w10 (row_at HO10.out) (bodyS_byte k e n l d HBY.out) (by omega)
    rw [HBL.out] at hsl
    refine hsl.mono ?_
    clear hsl
    rintro r w11 ⟨v11, rfl, hr11, b11⟩
    have HR11 := Aside0.mk (Kd.R_lower hr11 HW10.out.size)
    have HB11 := Aside0.mk (HW10.out.trans (b11.mono HW10.out.size))
    clear hr11 b11 hbl
    go_wp2_with fail
    go_ret2
    exact ⟨_, by rw [HQ.out]; rfl, by rw [HQ.out]; exact HR11.out, HB11.out⟩
end Sect
end Go.Proofs.Ytkfbegmfepehiaa
namespace Go.Proofs.Ytkfbegmfepehiaa
set_option linter.unusedVariables false
set_option linter.unusedSimpArgs false
set_option linter.ambiguousOpen false
open Go.RowKit Go.Proofs.YtkfbegmfepehiaaW.PrintWords Go.Proofs.YtkfbegmfepehiaaW.PrintLast Go.Proofs.YtkfbegmfepehiaaW.PrintMore
namespace Sect
open Go.Num Go.Crc Go.Proofs.Ytkfbegmfepehiaa.Cell
def numP (ys : List Int) : Int := if (unfixP ys).2 ≠ 0 then -1 else (unfixP ys).1
def offS : Nat → Nat | 0 => 0 | 1 => 1 | 2 => 2 | 3 => 4 | 4 => 8 | _ => 12
def wideS : Nat → Nat | 0 => 1 | 1 => 1 | 2 => 2 | 3 => 4 | _ => 4
def numsS (own : List Int) (i : Nat) : List Int := (List.range i).map (fun j => numP ((own.drop (offS j)).take (wideS j)))
theorem numsS_len (own : List Int) (i : Nat) : (numsS own i).length = i := by simp [numsS]
theorem numsS_succ (own : List Int) (i : Nat) : numsS own (i + 1) = numsS own i ++ [numP ((own.drop (offS i)).take (wideS i))] := by simp [numsS, List.range_succ]
theorem infoI64 : (Try.prog.info? 3).map (fun i => (i.zero, i.size, i.bytes)) = some (some (.int .i64 0), 1, 8) := by kernel_rfl
theorem rowI {w : World} {b t : Nat} {l : List Int} (hb : w.heap[b]? = some (.cells (l.map (Value.int .i64)).toArray t (0, 0))) (hl : l.length ≤ 1000000) : Kd.C (Kd.int .i64) w (some ⟨b, 0, none⟩) l.length l := by
  refine Kd.C_of_reads (enc := fun x => Value.int .i64 x) (d := (0:Int)) (h1 := fun _ => rfl) ⟨rfl, by omega, fun _ => ⟨_, rfl, fun j hj => ?_⟩⟩
  have hadd : (⟨b, 0, none⟩ : Addr).add j = ⟨b, j, none⟩ := by unfold Addr.add; split <;> simp_all
  rw [hadd, cell_blk hb, List.getElem?_toArray, List.getElem?_map, List.getD_eq_getElem?_getD, List.getElem?_eq_getElem hj]
  rfl
theorem RI_only {w w' : World} {cb base t : Nat} {ok : Nat → Prop} {v : Value} {xs : List Int} (h : Kd.R (Kd.int .i64) t w base ok v xs) (f : Only cb w w') (hb : cb < base) : Kd.R (Kd.int .i64) t w' base ok v xs :=
  Kd.R_mono (Kd.R_step (Kd.R_bound h) (fun k hk hlt => f.block k hlt (by have := hk.2.1; omega))) (fun k hk => hk.1)
theorem wide_unfix (own : List Int) (hl : own.length = 60) (hb : ∀ y ∈ own, 0 ≤ y ∧ y ≤ 255) (i : Nat) (hi : i < 5) : offS i + wideS i = offS (i + 1) ∧ wideS i ≤ (own.drop (offS i)).length ∧ ((own.drop (offS i)).take (wideS i)).length = wideS i ∧ (own.drop (offS i)).length = 60 - offS i ∧ wideS i ≤ 4 := by
  have h0 : (own.drop (offS i)).length = 60 - offS i := by rw [List.length_drop, hl]
  rcases (show i = 0 ∨ i = 1 ∨ i = 2 ∨ i = 3 ∨ i = 4 by omega) with rfl | rfl | rfl | rfl | rfl <;> refine ⟨rfl, ?_, ?_, h0, by decide⟩ <;> first | (rw [List.length_take, h0]; rfl) | (rw [h0]; decide)
theorem pc_kept {w w' : World} {base cb : Nat} {bs : List Int} {bad : Bool} (h : PC w base cb bs bad) (hk : ∀ (k : Nat) (cs : Array Value) (t : Nat), t ≠ 3 → w.heap[k]? = some (.cells cs t (0, 0)) → w'.heap[k]? = some (.cells cs t (0, 0))) : PC w' base cb bs bad := by
  unfold PC at *
  cases bad with
  | true => exact ⟨h.1, h.2.1, hk _ _ _ (by decide) h.2.2⟩
  | false =>
    obtain ⟨g, off, c, all, sp, h⟩ := h
    exact ⟨g, off, c, all, sp, h.cbase, hk _ _ _ (by decide) h.cells, hk _ _ _ (by decide) h.row, h.at_, h.room, h.few⟩
set_option maxHeartbeats 8000000 in
set_option maxRecDepth 100000 in
theorem numbers_any {w : World} {base cb gw : Nat} (own : List Int) (hp : PC w base cb own false) (hl : own.length = 60) (hb : ∀ y ∈ own, 0 ≤ y ∧ y ≤ 255) (hw : w.heap[gw]? = some (.cells #[.int .i64 1, .int .i64 1, .int .i64 2, .int .i64 4, .int .i64 4] 3 (0, 0))) :
    Calls Try.prog 54 #[.func (.func 43) #[.pointer (some ⟨cb, 0, none⟩)] #[], .slice (some ⟨gw, 0, none⟩) 5 5] w fun e w' => ∃ A c, e = .returned (.slice A 5 c) ∧ Kd.R (Kd.int .i64) 3 w' w.heap.size (fun _ => True) (.slice A 5 c) (numsS own 5) ∧ PC w' base cb (own.drop 12) false ∧ Only cb w w' := by
  have HP := Aside0.mk hp
  have HL := Aside0.mk hl
  have HBY := Aside0.mk hb
  have HW := Aside0.mk hw
  have HCB := Aside0.mk (pc_lt hp).1
  have HNE := Aside0.mk (show gw ≠ cb from fun e => by
    subst e
    unfold PC at hp
    simp only [Bool.false_eq_true, if_false] at hp
    obtain ⟨_, _, _, _, _, h⟩ := hp
    have := h.cells.symm.trans hw
    simp at this)
  clear hp hl hb hw
  go_enter Try.func54, Try.ntmps54
  go_wp2_with fail
  go_loopg [12, 7, 8, 9, 5] 5 (fun gk v12 v7 v8 v9 v5 wr => ∃ (i : Nat) (A' : Option Addr) (c' : Nat), Aside0 (i + gk = 5) ∧ v12 = .int .i64 i ∧ v5 = .slice A' i c' ∧ Aside0 (Kd.R (Kd.int .i64) 3 wr w.heap.size (fun _ => True) (.slice A' i c') (numsS own i)) ∧ Aside0 (PC wr base cb (own.drop (offS i)) false) ∧ Aside0 (Only cb w wr))
  case atStart => exact ⟨0, none, 0, ⟨by omega⟩, rfl, rfl, ⟨Kd.R_nil _ _ _ _ _⟩, HP, ⟨Only.refl _ _⟩⟩
  case round =>
    clear HP
    obtain ⟨i, A', c', HI, rfl, rfl, HR, HP, HO⟩ := hrel
    by_cases hi : i < 5
    · have hw2 := (HO.out.block gw (blk_lt HW.out) HNE.out).trans HW.out
      have q0 : wr.cell? ⟨gw, i, none⟩ = some (.int .i64 (wideS i : Int)) := by
        rcases (show i = 0 ∨ i = 1 ∨ i = 2 ∨ i = 3 ∨ i = 4 by omega) with rfl | rfl | rfl | rfl | rfl <;> exact cell_blk hw2
      have hlt : (i : Int) < 5 := by omega
      obtain ⟨v1, v2, v3, v4, v5⟩ := wide_unfix own HL.out HBY.out i hi
      have HV := Aside0.mk (And.intro v1 (And.intro v3 v5))
      have ht := take_yes HP.out (wideS i) v2
      have HT := Aside0.mk ht
      clear hw2 ht v1 v2 v3 v4 v5
      go_wp2_with fail
      refine HT.out.mono ?_
      clear HT q0
      rintro e w1 ⟨v1, rfl, hr1, hp1, ho1⟩
      obtain ⟨A1, c1, rfl⟩ := Kd.R_slice hr1
      have HO1 := Aside0.mk (HO.out.trans ho1)
      have HR1 := Aside0.mk (RI_only HR.out ho1 HCB.out)
      have HP1 := Aside0.mk (show PC w1 base cb (own.drop (offS (i + 1))) false by rw [← HV.out.1, ← List.drop_drop]; exact hp1)
      have HC1 := Aside0.mk (row_at hr1)
      have hc1 := (Kd.R_reads' hr1).2.1
      have HS1 := Aside0.mk ho1.size
      clear hr1 hp1 ho1 HR HP
      obtain ⟨ys, hys⟩ : ∃ ys, ys = (own.drop (offS i)).take (wideS i) := ⟨_, rfl⟩
      have HYB := Aside0.mk (show ∀ x ∈ ys, 0 ≤ x ∧ x ≤ 255 by rw [hys]; exact fun x hx => HBY.out x (List.mem_of_mem_drop (List.mem_of_mem_take hx)))
      have HYN := Aside0.mk (show numsS own (i + 1) = numsS own i ++ [numP ys] by rw [hys]; exact numsS_succ own i)
      have hyl : ys.length ≤ 4 := by rw [hys, HV.out.2.1]; exact HV.out.2.2
      rw [← hys] at hc1 HC1 ⊢
      obtain ⟨yn, hyn⟩ : ∃ yn, yn = ys.length := ⟨_, rfl⟩
      have hu := unfix_any A1 c1 ys HC1.out hc1 HYB.out
      rw [← hyn] at hu hc1 ⊢
      obtain ⟨u1, hu1⟩ : ∃ z, z = (unfixP ys).1 := ⟨_, rfl⟩
      obtain ⟨u2, hu2⟩ : ∃ z, z = (unfixP ys).2 := ⟨_, rfl⟩
      rw [← hu1, ← hu2] at hu
      have HNP := Aside0.mk (show numP ys = if u2 ≠ 0 then -1 else u1 by unfold numP; rw [← hu1, ← hu2])
      have HU := Aside0.mk hu
      clear hu hu1 hu2 hys hyl hyn
      go_wp2_with fail
      refine HU.out.mono ?_
      clear HU
      rintro e w2 ⟨rfl, b2⟩
      have HO2 := Aside0.mk (HO1.out.trans (Only.of_below b2))
      have HR2 := Aside0.mk (Kd.R_below HR1.out b2)
      have HP2 := Aside0.mk (HP1.out.only (b := 0) b2)
      clear b2 HO1 HR1 HP1 HC1
      by_cases h2 : u2 = 0
      · subst h2
        have hnp := HNP.out
        simp only [ne_eq, not_true_eq_false, if_false] at hnp
        have HNQ := Aside0.mk (show numsS own (i + 1) = numsS own i ++ [u1] by rw [HYN.out, hnp])
        clear hnp HNP
        have HIL := Aside0.mk hi
        clear hi hlt
        go_wp2_with ((with_reducible refine gate_builtin (b := .append) (xs := #[.tmp 25, .tmp 27]) rfl ?_); at_builtin; refine Hid.out ?_)
        refine Lib.hid ?_
        obtain ⟨w3, hw3⟩ : ∃ w3, w3 = w2.alloc (.cells #[.int .i64 u1] 3) := ⟨_, rfl⟩
        have hb3 : Below w2.heap.size w2 w3 := by rw [hw3]; exact (Below.refl _ _).alloc (Nat.le_refl _) _
        have hn3 : w3.heap[w2.heap.size]? = some (.cells (([u1] : List Int).map (Value.int .i64)).toArray 3 (0, 0)) := by rw [hw3]; exact heap_alloc_new w2 _
        rw [← hw3]
        have HN3 := Aside0.mk (rowI hn3 (by simp))
        have HO3 := Aside0.mk (HO2.out.trans (Only.of_below hb3))
        have HR3 := Aside0.mk (Kd.R_below HR2.out hb3)
        have HP3 := Aside0.mk (HP2.out.only (b := 0) hb3)
        clear hw3 hb3 hn3 HO2 HR2 HP2
        refine Kd.R_append_rows (Kd.int .i64) (Rr := (Kd.int .i64).K w3) (w0 := w3) w.heap.size rfl (.tmp 25) (.tmp 27) 34 3 (.int .i64 0) 8 rfl Try.underlying34 infoI64 rfl (by decide) (by omega) (.slice A' i c') (numsS own i) [u1] _ _ _ (fun _ => True) (fun _ => False) rfl rfl HR3.out HN3.out (fun x cs h => h) (fun _ hk => hk.elim) (fun _ _ => trivial) (Below.refl _ _) HO3.out.size (by rw [numsS_len]; have := HI.out; simp; omega) ?_
        intro v4 w4 ho4 hb4 hg4 _
        have HO4 := Aside0.mk (show Only cb w w4 from only_trans' HO3.out hb4)
        have HP4 := Aside0.mk (pc_kept HP3.out (fun k cs t ht hk => (hg4.block k (blk_lt hk) (Kd.R_ne HR3.out hk (Ne.symm ht))).trans hk))
        have HQ4 := Aside0.mk (show Kd.R (Kd.int .i64) 3 w4 w.heap.size (fun _ => True) v4 (numsS own (i + 1)) by rw [HNQ.out]; exact ho4)
        clear ho4 hb4 hg4 HO3 HP3 HR3 HN3
        obtain ⟨A4, c4, rfl⟩ := Kd.R_slice HQ4.out
        have hl4 := numsS_len own (i + 1)
        rw [hl4] at HQ4 ⊢
        have hi9 : wrap64 ((i : Int) + 1) = ((i + 1 : Nat) : Int) := by have := HI.out; unfold wrap64; omega
        clear hl4
        go_wp2_with fail
        go_roundg (gk - 1)
        case measure => have := HI.out; have := HIL.out; omega
        case rel => exact ⟨i + 1, A4, c4, ⟨by have := HI.out; have := HIL.out; omega⟩, by first | rfl | (rw [hi9]; rfl) | go_num, rfl, HQ4, HP4, HO4⟩
      · have h2b : (u2 == 0) = false := by simpa using h2
        have hnp := HNP.out
        rw [if_pos h2] at hnp
        have HNQ := Aside0.mk (show numsS own (i + 1) = numsS own i ++ [-1] by rw [HYN.out, hnp])
        clear hnp HNP
        have HIL := Aside0.mk hi
        clear hi hlt
        go_wp2_with ((with_reducible refine gate_builtin (b := .append) (xs := #[.tmp 25, .tmp 27]) rfl ?_); at_builtin; refine Hid.out ?_)
        refine Lib.hid ?_
        obtain ⟨w3, hw3⟩ : ∃ w3, w3 = w2.alloc (.cells #[.int .i64 (-1)] 3) := ⟨_, rfl⟩
        have hb3 : Below w2.heap.size w2 w3 := by rw [hw3]; exact (Below.refl _ _).alloc (Nat.le_refl _) _
        have hn3 : w3.heap[w2.heap.size]? = some (.cells (([(-1)] : List Int).map (Value.int .i64)).toArray 3 (0, 0)) := by rw [hw3]; exact heap_alloc_new w2 _
        rw [← hw3]
        have HN3 := Aside0.mk (rowI hn3 (by simp))
        have HO3 := Aside0.mk (HO2.out.trans (Only.of_below hb3))
        have HR3 := Aside0.mk (Kd.R_below HR2.out hb3)
        have HP3 := Aside0.mk (HP2.out.only (b := 0) hb3)
        clear hw3 hb3 hn3 HO2 HR2 HP2
        refine Kd.R_append_rows (Kd.int .i64) (Rr := (Kd.int .i64).K w3) (w0 := w3) w.heap.size rfl (.tmp 25) (.tmp 27) 34 3 (.int .i64 0) 8 rfl Try.underlying34 infoI64 rfl (by decide) (by omega) (.slice A' i c') (numsS own i) [(-1)] _ _ _ (fun _ => True) (fun _ => False) rfl rfl HR3.out HN3.out (fun x cs h => h) (fun _ hk => hk.elim) (fun _ _ => trivial) (Below.refl _ _) HO3.out.size (by rw [numsS_len]; have := HI.out; simp; omega) ?_
        intro v4 w4 ho4 hb4 hg4 _
        have HO4 := Aside0.mk (show Only cb w w4 from only_trans' HO3.out hb4)
        have HP4 := Aside0.mk (pc_kept HP3.out (fun k cs t ht hk => (hg4.block k (blk_lt hk) (Kd.R_ne HR3.out hk (Ne.symm ht))).trans hk))
        have HQ4 := Aside0.mk (show Kd.R (Kd.int .i64) 3 w4 w.heap.size (fun _ => True) v4 (numsS own (i + 1)) by rw [HNQ.out]; exact ho4)
        clear ho4 hb4 hg4 HO3 HP3 HR3 HN3
        obtain ⟨A4, c4, rfl⟩ := Kd.R_slice HQ4.out
        have hl4 := numsS_len own (i + 1)
        rw [hl4] at HQ4 ⊢
        have hi9 : wrap64 ((i : Int) + 1) = ((i + 1 : Nat) : Int) := by have := HI.out; unfold wrap64; omega
        clear hl4
        go_wp2_with fail
        go_roundg (gk - 1)
        case measure => have := HI.out; have := HIL.out; omega
        case rel => exact ⟨i + 1, A4, c4, ⟨by have := HI.out; have := HIL.out; omega⟩, by first | rfl | (rw [hi9]; rfl) | go_num, rfl, HQ4, HP4, HO4⟩
    · have hi5 : i = 5 := by have := HI.out; omega
      subst hi5
      clear hi
      go_wp2_with fail
      go_ret
      exact ⟨A', c', rfl, HR.out, HP.out, HO.out⟩
end Sect
end Go.Proofs.Ytkfbegmfepehiaa
