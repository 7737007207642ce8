/- Part 20 of the proof of ChainWrites: lemmas alone. -/
import Derived.Test.YtclneeamemofoaaGreatZChainWritesP17
import Derived.Test.YtclneeamemofoaaGreatZChainWritesP2
import Derived.Test.YtclneeamemofoaaGreatZChainWritesP10
import Derived.Test.YtclneeamemofoaaGreatZChainWritesP16
import Derived.Below
import Derived.Lib.Hide
import Derived.OwnWalk
import Derived.WalkKit
import Derived.KernelRfl
import Derived.RowKit3
import Derived.Deep.LoopGhost
import Derived.Deep.QuietTactic
import Derived.BigQuiet
import Derived.WideLaws
import Derived.Great.BuildSlice
import Derived.Outline
import Derived.Deep.DeepCutAuto
import Derived.WalkSpells
import Derived.RegionTactic
import Derived.BigRegion
import Derived.WalkLawsBesides
section
namespace Go.Proofs.YtclneeamemofoaaGreat
set_option linter.unusedVariables false
set_option linter.unusedSimpArgs false
open Go.RowKit Go.Proofs.YtclneeamemofoaaGreatW.PrintWords Go.Proofs.YtclneeamemofoaaGreatW.PrintLast Go.Proofs.YtclneeamemofoaaGreatW.PrintMore
namespace Disk
open Go.Disk PDiskDoes PChain
theorem below_steps {x y z : World} (h : Below x.heap.size x y) (k : Below y.heap.size y z) : Below x.heap.size x z := h.trans (k.mono h.size)
theorem str8 {w : World} {base : Nat} {ok : Nat → Prop} {A : Option Addr} {l c : Nat} {xs : List Int} (h : Kd.R (Kd.int .u8) 5 w base ok (.slice A l c) xs) (x : World) (b : Below w.heap.size w x) : (convert 39 9 (.slice A l c)).run Tryz.prog x = .ok (.string (strOfNums xs)) x := by
  have h2 := Kd.R_below h b
  obtain ⟨A2, c2, e⟩ := Kd.R_slice h2
  cases e
  exact Kd.C_string Tryz.underlying39 Tryz.underlying5 Tryz.underlying9 (row_at h2)
set_option maxHeartbeats 8000000 in
set_option maxRecDepth 100000 in
theorem alike_any {w : World} {base db sb xb : Nat} {D : Dk} (h : Both w base db sb xb D) (hfew : D.waits.length ≤ 1000000) :
    Calls Tryz.prog 12 #[.pointer (some ⟨db, 0, none⟩), .pointer (some ⟨xb, 0, none⟩)] w fun e w' => e = .returned (.bool true) ∧ Below w.heap.size w w' := by
  have HP := Aside0.mk h
  obtain ⟨_, ⟨vs, vw, hx⟩, _⟩ := h
  obtain ⟨AS, cS, rfl⟩ := Kd.R_slice hx.safe
  obtain ⟨AW, cW, rfl⟩ := Kd.R_slice hx.waits
  have hxl : xb < w.heap.size := blk_lt hx.cells
  have hm0 : ∀ m : Go.Reg.In (Below w.heap.size w), m.w.cell? ⟨xb, 0, none⟩ = some (.slice AS D.safe.length cS) := fun m => by rw [m.h.cell hxl]; exact cell_blk hx.cells
  have hm1 : ∀ m : Go.Reg.In (Below w.heap.size w), m.w.cell? ⟨xb, 1, none⟩ = some (.slice AW D.waits.length cW) := fun m => by rw [m.h.cell hxl]; exact cell_blk hx.cells
  have hm3 : ∀ m : Go.Reg.In (Below w.heap.size w), m.w.cell? ⟨xb, 3, none⟩ = some (.bool D.off) := fun m => by rw [m.h.cell hxl]; exact cell_blk hx.cells
  clear hx
  go_enter Tryz.func12, Tryz.ntmps12
  go_wp2_with fail
  refine Go.Rg.region (Below w.heap.size w) (fun x y => Below x.heap.size x y) (fun x => Below.refl _ x) (fun x y z => below_steps) [.s, .w, .s, .s, .s, .s, .s, .s, .s, .w, .s, .s, .s, .s, .s, .s, .s, .s, .s, .w, .s, .s, .s, .s, .s, .s, .s, .s, .s, .w, .r, .s, .w, .r, .s, .s, .s, .s, .w, .r, .s, .w, .r, .s, .s, .s] (by kernel_rfl) (by kernel_rfl) (below_drew1 (Below.refl _ _)) (fun ne => ?_)
  refine Go.Rg.lex_q 1 _ _ _ _ _ (by rfl) ?_; simp only [List.take_succ_cons, List.take_zero, List.drop_succ_cons, List.drop_zero]; (repeat (go_big_quiet_step (rfl))); refine wpQuiet_nil ?_
  refine Go.Rg.step_w (by rfl) (fun K hK => ?_)
  go_wp2_with fail
  have HB1 := Aside0.mk (below_drew1 (Below.refl w.heap.size w))
  have HP1 := Aside0.mk (HP.out.below HB1.out)
  refine (off_any HP1.out.pd).mono ?_
  rintro e w2 ⟨rfl, rfl⟩
  go_wp2_with fail
  refine hK.out _ _ HB1.out (Below.refl _ _) ?_
  clear hK K
  try simp only [Act.put, List.setIfInBounds_toArray, List.set_cons_succ, List.set_cons_zero]
  refine Go.Rg.lex_q 7 _ _ _ _ _ (by rfl) ?_; simp only [List.take_succ_cons, List.take_zero, List.drop_succ_cons, List.drop_zero]; (repeat (go_big_quiet_step (rfl))); refine wpQuiet_nil ?_
  refine Go.Rg.step_w (by rfl) (fun K hK => ?_)
  go_wp2_with fail
  refine (waits_any HP1.out.pd).mono ?_
  rintro e w2 ⟨rfl, rfl⟩
  go_wp2_with fail
  refine hK.out _ _ HB1.out (Below.refl _ _) ?_
  clear hK K
  try simp only [Act.put, List.setIfInBounds_toArray, List.set_cons_succ, List.set_cons_zero]
  refine Go.Rg.lex_q 9 _ _ _ _ _ (by rfl) ?_; simp only [List.take_succ_cons, List.take_zero, List.drop_succ_cons, List.drop_zero]; (repeat (go_big_quiet_step (rfl))); refine wpQuiet_nil ?_
  refine Go.Rg.step_w (by rfl) (fun K hK => ?_)
  go_wp2_with fail
  refine (blocks_any HP1.out.pd).mono ?_
  rintro e w2 ⟨rfl, rfl⟩
  go_wp2_with fail
  refine hK.out _ _ HB1.out (Below.refl _ _) ?_
  clear hK K
  try simp only [Act.put, List.setIfInBounds_toArray, List.set_cons_succ, List.set_cons_zero]
  obtain ⟨T1, hT1⟩ : ∃ T, T = strOfNums (imageD D) := ⟨_, rfl⟩
  have HT1 := Aside0.mk hT1
  clear hT1
  obtain ⟨F, hF⟩ : ∃ F, F = D.safe.flatten := ⟨_, rfl⟩
  have HF := Aside0.mk hF
  clear hF
  obtain ⟨T2, hT2⟩ : ∃ T, T = strOfNums F := ⟨_, rfl⟩
  have HT2 := Aside0.mk hT2
  clear hT2
  refine Go.Rg.lex_q 9 _ _ _ _ _ (by rfl) ?_; simp only [List.take_succ_cons, List.take_zero, List.drop_succ_cons, List.drop_zero]; (repeat (go_big_quiet_step (rfl))); refine wpQuiet_nil ?_
  refine Go.Rg.step_w (by rfl) (fun K hK => ?_)
  go_wp2_with fail
  refine (image_any HP1.out.pd hfew).mono ?_
  rintro e w3 ⟨v3, rfl, hr3, b3⟩
  obtain ⟨A3, c3, rfl⟩ := Kd.R_slice hr3
  have HR3 := Aside0.mk hr3
  have HS3 := Aside0.mk b3
  have HP3 := Aside0.mk (HP1.out.below b3)
  have HB3 := Aside0.mk (below_steps HB1.out b3)
  clear hr3 b3
  go_wp2_with fail
  refine hK.out _ _ HB3.out HS3.out ?_
  clear hK K
  try simp only [Act.put, List.setIfInBounds_toArray, List.set_cons_succ, List.set_cons_zero]
  refine Go.Rg.lex_rm 1 _ _ _ _ _ (by rfl) ?_; simp only [List.take_succ_cons, List.take_zero, List.drop_succ_cons, List.drop_zero]
  have hs3 : ∀ m : Go.Reg.In (fun y => Below w.heap.size w y ∧ Below w3.heap.size w3 y), (convert 39 9 (.slice A3 (imageD D).length c3)).run Tryz.prog m.w = .ok (.string T1) m.w := fun m => by rw [HT1.out]; exact str8 HR3.out _ m.h.2
  (repeat (go_big_quiet_step (rfl))); refine wpQuiet_nil ?_
  refine Go.Rg.lex_q 1 _ _ _ _ _ (by rfl) ?_; simp only [List.take_succ_cons, List.take_zero, List.drop_succ_cons, List.drop_zero]; (repeat (go_big_quiet_step (rfl))); refine wpQuiet_nil ?_
  refine Go.Rg.step_w (by rfl) (fun K hK => ?_)
  go_wp2_with fail
  refine (ximage_any HP3.out.rd hfew).mono ?_
  rintro e w4 ⟨v4, rfl, hr4, b4⟩
  obtain ⟨A4, c4, rfl⟩ := Kd.R_slice hr4
  have HR4 := Aside0.mk hr4
  have HS4 := Aside0.mk b4
  have HP4 := Aside0.mk (HP3.out.below b4)
  have HB4 := Aside0.mk (below_steps HB3.out b4)
  clear hr4 b4
  go_wp2_with fail
  refine hK.out _ _ HB4.out HS4.out ?_
  clear hK K
  try simp only [Act.put, List.setIfInBounds_toArray, List.set_cons_succ, List.set_cons_zero]
  refine Go.Rg.lex_rm 1 _ _ _ _ _ (by rfl) ?_; simp only [List.take_succ_cons, List.take_zero, List.drop_succ_cons, List.drop_zero]
  have hs4 : ∀ m : Go.Reg.In (fun y => Below w.heap.size w y ∧ Below w4.heap.size w4 y), (convert 39 9 (.slice A4 (imageD D).length c4)).run Tryz.prog m.w = .ok (.string T1) m.w := fun m => by rw [HT1.out]; exact str8 HR4.out _ m.h.2
  (repeat (go_big_quiet_step (rfl))); refine wpQuiet_nil ?_
  refine Go.Rg.lex_q 4 _ _ _ _ _ (by rfl) ?_; simp only [List.take_succ_cons, List.take_zero, List.drop_succ_cons, List.drop_zero]; (repeat (go_big_quiet_step (rfl))); refine wpQuiet_nil ?_
  refine Go.Rg.step_w (by rfl) (fun K hK => ?_)
  go_wp2_with fail
  have hq5 := safe_any HP4.out.pd
  rw [← HF.out] at hq5
  refine hq5.mono ?_
  clear hq5
  rintro e w5 ⟨v5, rfl, hr5, b5⟩
  obtain ⟨A5, c5, rfl⟩ := Kd.R_slice hr5
  have HR5 := Aside0.mk hr5
  have HS5 := Aside0.mk b5
  have HP5 := Aside0.mk (HP4.out.below b5)
  have HB5 := Aside0.mk (below_steps HB4.out b5)
  clear hr5 b5
  go_wp2_with fail
  refine hK.out _ _ HB5.out HS5.out ?_
  clear hK K
  try simp only [Act.put, List.setIfInBounds_toArray, List.set_cons_succ, List.set_cons_zero]
  refine Go.Rg.lex_rm 1 _ _ _ _ _ (by rfl) ?_; simp only [List.take_succ_cons, List.take_zero, List.drop_succ_cons, List.drop_zero]
  have hs5 : ∀ m : Go.Reg.In (fun y => Below w.heap.size w y ∧ Below w5.heap.size w5 y), (convert 39 9 (.slice A5 F.length c5)).run Tryz.prog m.w = .ok (.string T2) m.w := fun m => by rw [HT2.out]; exact str8 HR5.out _ m.h.2
  (repeat (go_big_quiet_step (rfl))); refine wpQuiet_nil ?_
  refine Go.Rg.lex_q 1 _ _ _ _ _ (by rfl) ?_; simp only [List.take_succ_cons, List.take_zero, List.drop_succ_cons, List.drop_zero]; (repeat (go_big_quiet_step (rfl))); refine wpQuiet_nil ?_
  refine Go.Rg.step_w (by rfl) (fun K hK => ?_)
  go_wp2_with fail
  have hq6 := xsure_any HP5.out.rd
  rw [← HF.out] at hq6
  refine hq6.mono ?_
  clear hq6
  rintro e w6 ⟨v6, rfl, hr6, b6⟩
  obtain ⟨A6, c6, rfl⟩ := Kd.R_slice hr6
  have HR6 := Aside0.mk hr6
  have HS6 := Aside0.mk b6
  have HP6 := Aside0.mk (HP5.out.below b6)
  have HB6 := Aside0.mk (below_steps HB5.out b6)
  clear hr6 b6
  go_wp2_with fail
  refine hK.out _ _ HB6.out HS6.out ?_
  clear hK K
  try simp only [Act.put, List.setIfInBounds_toArray, List.set_cons_succ, List.set_cons_zero]
  refine Go.Rg.lex_rm 1 _ _ _ _ _ (by rfl) ?_; simp only [List.take_succ_cons, List.take_zero, List.drop_succ_cons, List.drop_zero]
  have hs6 : ∀ m : Go.Reg.In (fun y => Below w.heap.size w y ∧ Below w6.heap.size w6 y), (convert 39 9 (.slice A6 F.length c6)).run Tryz.prog m.w = .ok (.string T2) m.w := fun m => by rw [HT2.out]; exact str8 HR6.out _ m.h.2
  (repeat (go_big_quiet_step (rfl))); refine wpQuiet_nil ?_
  refine Go.Rg.lex_q 3 _ _ _ _ _ (by rfl) ?_; simp only [List.take_succ_cons, List.take_zero, List.drop_succ_cons, List.drop_zero]; (repeat (go_big_quiet_step (rfl))); refine wpQuiet_nil ?_
  refine Go.Rg.lex_nil ?_
  clear hm0 hm1 hm3 hs3 hs4 hs5 hs6
  go_wp2_with fail
  go_ret
  exact ⟨rfl, HB6.out⟩
end Disk
end Go.Proofs.YtclneeamemofoaaGreat
namespace Go.Proofs.YtclneeamemofoaaGreat
set_option linter.unusedVariables false
set_option linter.unusedSimpArgs false
open Go.RowKit Go.Proofs.YtclneeamemofoaaGreatW.PrintWords Go.Proofs.YtclneeamemofoaaGreatW.PrintLast Go.Proofs.YtclneeamemofoaaGreatW.PrintMore
namespace Disk
open Go.Disk PDiskDoes PChain
theorem wrap_up' (p : Nat) (h : p ≤ 1000000000) : wrap64 ((p : Int) + 1) = ((p + 1 : Nat) : Int) := by
  rw [wrap_id _ (by omega) (by omega)]
  omega
theorem few_l (ys : List S45) : ∀ (k p : Nat), ys.length < p + k → p ≤ ys.length → ys.length ≤ 40 → ∃ r, chantrylaw06_Few.l0 k ys p = some r
  | 0, p, h1, h2, _ => by omega
  | k + 1, p, h1, h2, h3 => by
    simp only [chantrylaw06_Few.l0]
    by_cases hp : p < ys.length
    · rw [if_pos (by omega), if_pos (by omega)]
      by_cases hq : (((rd_T45 ys (p : Int)).f2).length : Int) > 600
      · rw [if_pos hq]
        exact ⟨false, rfl⟩
      · rw [if_neg hq, wrap_up' p (by omega)]
        exact few_l ys k (p + 1) (by omega) (by omega) h3
    · rw [if_neg (by omega)]
      exact ⟨true, rfl⟩
theorem few_plain (ys : List S45) : ∃ r, chantrylaw06_Few.f 100 ys = some r ∧ (r = true → ys.length ≤ 40) := by
  unfold chantrylaw06_Few.f
  by_cases h : (ys.length : Int) > 40
  · rw [if_pos h]
    exact ⟨false, rfl, fun h => by cases h⟩
  · rw [if_neg h]
    obtain ⟨r, h1⟩ := few_l ys 100 0 (by omega) (Nat.zero_le _) (by omega)
    exact ⟨r, h1, fun _ => by omega⟩
theorem few_any {w : World} (A : Option Addr) (c : Nat) (ys : List S45) (hC : Kd.C k45 w A ys.length ys) (hc : ys.length ≤ c) :
    Calls Tryz.prog 7 #[.slice A ys.length c] w fun e w' => ∃ r : Bool, e = .returned (.bool r) ∧ Aside0 (r = true → ys.length ≤ 40) ∧ Below w.heap.size w w' := by
  obtain ⟨r, hr, hl⟩ := few_plain ys
  refine (chantrylaw06_Few.calls 100 A c ys r w hC hc hr).mono ?_
  rintro e w' ⟨he, hd⟩
  exact ⟨r, he, ⟨hl⟩, hd.below⟩
theorem waits_deed (D : Dk) : (deedD D).waits = D.waits := by
  unfold deedD
  split <;> rfl
theorem crash_waits (D : Dk) (ms : List Int) : (crashD D ms).waits = [] := rfl
theorem waits_do (D : Dk) (K N : Int) (bs : List Int) (odd : Bool) (ms : List Int) : (doD D K N bs odd ms).waits.length ≤ D.waits.length + 1 := by
  unfold doD
  split
  · split
    · exact Nat.le_succ _
    · exact Nat.le_succ _
  split
  · unfold writeD
    split
    · exact Nat.le_succ _
    split
    · exact Nat.le_succ _
    split
    · show (deedD _).waits.length ≤ _
      rw [waits_deed]
      simp [waitD]
    · show (deedD _).waits.length ≤ _
      rw [waits_deed]
      simp [waitD]
  split
  · unfold flushF
    split
    · exact Nat.le_succ _
    split
    · rw [waits_deed]; exact Nat.le_succ _
    · exact Nat.zero_le _
  split
  · split
    · exact Nat.le_succ _
    · exact Nat.le_succ _
  split
  · rw [crash_waits]; exact Nat.zero_le _
  · exact Nat.le_succ _
structure Came (w : World) (A : Option Addr) (ys : List S45) : Prop where
  row : Kd.C k45 w A ys.length ys
  byte : ∀ y ∈ ys, (∀ x ∈ y.f2, 0 ≤ x ∧ x ≤ 255) ∧ y.f1 ≤ 9223372036854775807
theorem Came.at_ {w0 : World} {A : Option Addr} {ys : List S45} (h : Came w0 A ys) (i : Nat) (hi : i < ys.length) :
    ∃ ad A2 c2 A4 c4, A = some ad ∧ (∀ x, Below w0.heap.size w0 x → x.cell? (ad.add (i * 5)) = some (.int .i64 (rd_T45 ys i).f0) ∧ x.cell? ⟨(ad.add (i * 5)).block, (ad.add (i * 5)).off + 1, none⟩ = some (.int .i64 (rd_T45 ys i).f1) ∧ x.cell? ⟨(ad.add (i * 5)).block, (ad.add (i * 5)).off + 2, none⟩ = some (.slice A2 (rd_T45 ys i).f2.length c2) ∧ x.cell? ⟨(ad.add (i * 5)).block, (ad.add (i * 5)).off + 3, none⟩ = some (.bool (rd_T45 ys i).f3) ∧ x.cell? ⟨(ad.add (i * 5)).block, (ad.add (i * 5)).off + 4, none⟩ = some (.slice A4 (rd_T45 ys i).f4.length c4) ∧ (Kd.int .u8).C x A2 (rd_T45 ys i).f2.length (rd_T45 ys i).f2 ∧ (Kd.int .i64).C x A4 (rd_T45 ys i).f4.length (rd_T45 ys i).f4) ∧ (rd_T45 ys i).f2.length ≤ c2 ∧ (rd_T45 ys i).f4.length ≤ c4 ∧ (∀ x ∈ (rd_T45 ys i).f2, 0 ≤ x ∧ x ≤ 255) ∧ (rd_T45 ys i).f1 ≤ 9223372036854775807 := by
  obtain ⟨ad, A2, c2, A4, c4, rfl, h0, h1, h2, h3, h4, l2, g2, l4, g4⟩ := at_T45 h.row (i : Int) (by omega) (by omega)
  rw [Int.toNat_natCast] at h0 h1 h2 h3 h4
  have hm : rd_T45 ys (i : Int) ∈ ys := by
    unfold rd_T45
    rw [Int.toNat_natCast, List.getD_eq_getElem?_getD, List.getElem?_eq_getElem hi]
    exact List.getElem_mem hi
  obtain ⟨hb, hN⟩ := h.byte _ hm
  exact ⟨ad, A2, c2, A4, c4, rfl, fun x hx => ⟨pw_cell_below hx h0, pw_cell_below hx h1, pw_cell_below hx h2, pw_cell_below hx h3, pw_cell_below hx h4, Kd.C_below g2 hx, Kd.C_below g4 hx⟩, l2, l4, hb, hN⟩
end Disk
end Go.Proofs.YtclneeamemofoaaGreat
end
section
namespace Go.Proofs.YtclneeamemofoaaGreat
set_option linter.unusedVariables false
set_option linter.unusedSimpArgs false
open Go.RowKit Go.Proofs.YtclneeamemofoaaGreatW.PrintWords Go.Proofs.YtclneeamemofoaaGreatW.PrintLast Go.Proofs.YtclneeamemofoaaGreatW.PrintMore
namespace Disk
open Go.Disk PDiskDoes PChain
theorem ready_ok {D : Dk} (ho : D.off = false) (n : Int) (h0 : 0 ≤ n) (h1 : n < D.safe.length) : ready D n = 0 := by
  unfold ready
  rw [ho]
  simp
  omega
def skip (n : Int) (y : S45) : Bool := y.f0 == 2 && y.f1 == n
end Disk
end Go.Proofs.YtclneeamemofoaaGreat
end
section
namespace Go.Proofs.YtclneeamemofoaaGreat
set_option linter.unusedVariables false
set_option linter.unusedSimpArgs false
set_option linter.ambiguousOpen false
open Go.RowKit Go.Proofs.YtclneeamemofoaaGreatW.PrintWords Go.Proofs.YtclneeamemofoaaGreatW.PrintLast Go.Proofs.YtclneeamemofoaaGreatW.PrintMore
namespace Op
open PDiskDoes PChain Go.ChangeShapes Go.WideShapes
theorem struct_deed : ∃ f0 f1 f2 f3 f4 : Field, Tryz.prog.underlying 45 = some (.struct #[f0, f1, f2, f3, f4]) ∧ (f0.offset = 0 ∧ f1.offset = 1 ∧ f2.offset = 2 ∧ f3.offset = 3 ∧ f4.offset = 4) ∧ (f0.type = 3 ∧ f1.type = 3 ∧ f2.type = 39 ∧ f3.type = 4 ∧ f4.type = 38) := by
  have h : (Tryz.prog.underlying 45).map (fun d => match d with | .struct fs => (fs.toList.map fun f => (f.offset, f.type)) | _ => []) = some [(0, 3), (1, 3), (2, 39), (3, 4), (4, 38)] := by kernel_rfl
  cases hq : Tryz.prog.underlying 45 with
  | none => rw [hq] at h; simp at h
  | some d =>
    rw [hq] at h
    cases d with
    | struct fs =>
      obtain ⟨l⟩ := fs
      have h2 : l.map (fun f => (f.offset, f.type)) = [(0, 3), (1, 3), (2, 39), (3, 4), (4, 38)] := by simpa using h
      have hlen : l.length = 5 := by have := congrArg List.length h2; simpa using this
      match l, h2, hlen with
      | [f0, f1, f2, f3, f4], h2, _ =>
        simp only [List.map_cons, List.map_nil, List.cons.injEq, Prod.mk.injEq, and_true] at h2
        obtain ⟨⟨o0, t0⟩, ⟨o1, t1⟩, ⟨o2, t2⟩, ⟨o3, t3⟩, ⟨o4, t4⟩⟩ := h2
        exact ⟨f0, f1, f2, f3, f4, rfl, ⟨o0, o1, o2, o3, o4⟩, ⟨t0, t1, t2, t3, t4⟩⟩
    | _ => exact absurd (show ([] : List (Nat × TypeId)) = _ from Option.some.inj h) (by simp)
theorem cells_deed : Tryz.prog.cellsOf 45 = 5 := by kernel_rfl
theorem cells_bool : Tryz.prog.cellsOf 4 = 1 := by kernel_rfl
theorem cells_ints1 : Tryz.prog.cellsOf 38 = 1 := by kernel_rfl
section
variable {H : Type} {enc : TypeId × Value → H} {w : World} {base : Nat} {spare : Nat → Bool} {held : Bool}
set_option maxRecDepth 100000 in
theorem open_deed {fuel : Nat} {cs : List Value} {y : DataW H × List MemPlace} (h : DataW.trod enc Tryz.prog w base spare held fuel 45 cs = some y) :
    ∃ x : S45, k45.K w x cs ∧ ((∀ z ∈ x.f2, in8 z) ∧ inI64 x.f1) := by
  obtain ⟨f0, f1, f2, f3, f4, hs, ⟨o0, o1, o2, o3, o4⟩, t0, t1, t2, t3, t4⟩ := struct_deed
  obtain ⟨y0, y1, y2, y3, y4, n, hl, g0, g1, g2, g3, g4⟩ := trod_st5 hs h
  rw [cells_deed] at hl
  match cs, hl with
  | [u0, u1, u2, u3, u4], _ =>
    rw [o0, t0, cells_int1] at g0
    rw [o1, t1, cells_int1] at g1
    rw [o2, t2, cells_u8s] at g2
    rw [o3, t3, cells_bool] at g3
    rw [o4, t4, cells_ints1] at g4
    simp at g0 g1 g2 g3 g4
    obtain ⟨x0, k0, _⟩ := open_i64 (w := w) Tryz.underlying3 g0
    obtain ⟨x1, k1, i1⟩ := open_i64 (w := w) Tryz.underlying3 g1
    obtain ⟨x2, ⟨A2, c2, k2, hc2, hC2⟩, i2⟩ := open_u8s g2
    obtain ⟨x3, k3, _⟩ := DataW.trod_bool Tryz.underlying4 g3
    obtain ⟨x4, ⟨A4, c4, k4, hc4, hC4⟩, i4⟩ := open_i64s Tryz.underlying38 Tryz.underlying3 cells_int1 g4
    have e0 : u0 = .int .i64 x0 := by have := k0; simpa [Kd.int, Kd.scalar] using this
    have e1 : u1 = .int .i64 x1 := by have := k1; simpa [Kd.int, Kd.scalar] using this
    have e2 : u2 = .slice A2 x2.length c2 := by simpa using k2
    have e3 : u3 = .bool x3 := by simpa using k3
    have e4 : u4 = .slice A4 x4.length c4 := by simpa using k4
    subst e0 e1 e2 e3 e4
    exact ⟨⟨x0, x1, x2, x3, x4⟩, k45_mk w ⟨x0, x1, x2, x3, x4⟩ hc2 hC2 hc4 hC4, i2, i1⟩
theorem open_deedrow {fuel : Nat} {cs : List Value} {y : DataW H × List MemPlace} (h : DataW.trod enc Tryz.prog w base spare held fuel 23 cs = some y) :
    ∃ (A : Option Addr) (c : Nat) (ys : List S45), cs = [.slice A ys.length c] ∧ ys.length ≤ c ∧ Disk.Came w A ys := by
  obtain ⟨A', c', ys, e, h1, h2, h3, _⟩ := open_rows k45 (fun y => (∀ z ∈ y.f2, in8 z) ∧ inI64 y.f1) Tryz.underlying23 cells_deed (fun fuel cs y h => open_deed h) h
  exact ⟨A', c', ys, e, h1, h2, fun y hy => ⟨(h3 y hy).1, (h3 y hy).2.2⟩⟩
theorem open_deeds {A : Option Addr} {n c : Nat} {d : DataW H} {p : List MemPlace} (h : DataW.Trod enc Tryz.prog w base spare held 23 (.slice A n c) d p) :
    ∃ ys : List S45, n = ys.length ∧ ys.length ≤ c ∧ Disk.Came w A ys := by
  obtain ⟨fuel, hf⟩ := h
  obtain ⟨A', c', ys, e, h1, h2⟩ := open_deedrow hf
  simp [Value.cells] at e
  obtain ⟨rfl, rfl, rfl⟩ := e
  exact ⟨ys, rfl, h1, h2⟩
end
end Op
end Go.Proofs.YtclneeamemofoaaGreat
end
