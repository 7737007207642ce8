/- Part 22 of the proof of ChainWrites: lemmas alone. -/
import Derived.Test.YtclneeamemofoaaGreatZChainWritesP20
import Derived.Test.YtclneeamemofoaaGreatZChainWritesP18
import Derived.Test.YtclneeamemofoaaGreatZChainWritesP17
import Derived.Test.YtclneeamemofoaaGreatZChainWritesP19
import Derived.Below
import Derived.Lib.Hide
import Derived.OwnWalk
import Derived.WalkKit
import Derived.KernelRfl
import Derived.RowKit3
import Derived.Deep.LoopGhost
import Derived.Deep.QuietTactic
import Derived.BigQuiet
import Derived.WideLaws
import Derived.Great.BuildSlice
import Derived.Outline
import Derived.Deep.DeepCutAuto
import Derived.WalkSpells
import Derived.RegionTactic
import Derived.BigRegion
import Derived.WalkLawsBesides
import Derived.Test.YtclneeamemofoaaGreatZChainWritesP9
section
namespace Go.Proofs.YtclneeamemofoaaGreat
set_option linter.unusedVariables false
set_option linter.unusedSimpArgs false
open Go.RowKit Go.Proofs.YtclneeamemofoaaGreatW.PrintWords Go.Proofs.YtclneeamemofoaaGreatW.PrintLast Go.Proofs.YtclneeamemofoaaGreatW.PrintMore
namespace Ch
open Go.Disk Go.Proofs.YtclneeamemofoaaGreat.Disk
def blkC (o : Int) (p t : List Int) (j : Nat) : List Int := (Cell.putP o j (Cell.nextOf p j) (Cell.pieceOf t j)).1
def wrN (o : Int) (p t : List Int) (D : Dk) : Nat → Dk × Int
  | 0 => (D, 0)
  | k + 1 => if (wrN o p t D k).2 ≠ 0 then wrN o p t D k else writeD (wrN o p t D k).1 (p.getD k 0) (blkC o p t k)
def chW (D : Dk) (o : Int) (p t : List Int) : Dk × (Int × Int × Int) × Int :=
  if (Cell.cutP o p t).2 ≠ 0 then (D, (0, 0, 0), (Cell.cutP o p t).2)
  else if apartP D.safe.length p = true then
    (if (wrN o p t D p.length).2 ≠ 0 then ((wrN o p t D p.length).1, (0, 0, 0), (wrN o p t D p.length).2) else ((wrN o p t D p.length).1, (p.getD 0 0, (t.length : Int), o), 0))
  else (D, (0, 0, 0), 1)
def partV (q : Int × Int × Int) : Value := .agg #[.int .i64 q.1, .int .i64 q.2.1, .int .i64 q.2.2]
theorem wr_stop (o : Int) (p t : List Int) (D : Dk) (k : Nat) (h : (wrN o p t D k).2 ≠ 0) : ∀ n, k ≤ n → wrN o p t D n = wrN o p t D k := by
  intro n hn
  induction n with
  | zero => obtain rfl : k = 0 := by omega
            rfl
  | succ n ih =>
    by_cases e : k = n + 1
    · rw [e]
    · have q := ih (by omega)
      show (if (wrN o p t D n).2 ≠ 0 then wrN o p t D n else _) = _
      rw [q, if_pos h]
theorem write_waits (D : Dk) (n : Int) (b : List Int) : (writeD D n b).1.waits.length ≤ D.waits.length + 1 := by
  unfold writeD
  split
  · exact Nat.le_succ _
  · split
    · exact Nat.le_succ _
    · split <;> simp [Disk.waits_deed, Disk.waitD]
theorem wr_waits (o : Int) (p t : List Int) (D : Dk) : ∀ k, (wrN o p t D k).1.waits.length ≤ D.waits.length + k
  | 0 => Nat.le_refl _
  | k + 1 => by
    have ih := wr_waits o p t D k
    show (if (wrN o p t D k).2 ≠ 0 then wrN o p t D k else writeD (wrN o p t D k).1 (p.getD k 0) (blkC o p t k)).1.waits.length ≤ _
    split
    · omega
    · have := write_waits (wrN o p t D k).1 (p.getD k 0) (blkC o p t k); omega
theorem cut_ok {o : Int} {p t : List Int} (h : (Cell.cutP o p t).2 = 0) : (Cell.cutP o p t).1 = Cell.cellsAt o p t p.length ∧ (∀ j, j < p.length → Cell.okAt o p t j = true) ∧ 0 < p.length ∧ p.length = Cell.needP t.length := by
  unfold Cell.cutP at h ⊢
  split at h
  · cases h
  · split at h
    · cases h
    · rename_i h1 h2
      split at h
      · rename_i h3
        rw [if_neg h1, if_neg h2, if_pos h3]
        exact ⟨rfl, fun j hj => List.all_eq_true.1 h3 j (List.mem_range.2 hj), by omega, by omega⟩
      · cases h
theorem tag_ne {w : World} {a b s t : Nat} {cs ds : Array Value} (h : w.heap[a]? = some (.cells cs s (0, 0))) (k : w.heap[b]? = some (.cells ds t (0, 0))) (hn : s ≠ t) : a ≠ b := fun e => by
  subst e
  rw [h] at k
  cases k
  exact hn rfl
theorem Fr_then {bs : Nat → Prop} {ts : Nat → Nat → Prop} {x y z : World} (h : Disk.Fr bs ts x y) (k : Below x.heap.size y z) : Disk.Fr bs ts x z :=
  ⟨k.os.trans h.os, k.tape.trans h.tape, k.output.trans h.output, Nat.le_trans h.size k.size, fun i hi hne ht => (k.block i hi).trans (h.block i hi hne ht)⟩
abbrev tagsP : List Nat := [58, 5, 103]
theorem pd_tags {w : World} {base db sb : Nat} {D : Dk} (h : PD w base db sb D) : (∃ cs, w.heap[db]? = some (.cells cs 58 (0, 0))) ∧ (∃ cs, w.heap[sb]? = some (.cells cs 5 (0, 0))) := by
  obtain ⟨vw, cs, sp, h⟩ := h
  exact ⟨⟨_, h.cells⟩, _, h.safe⟩
theorem pd_lt {w : World} {base db sb : Nat} {D : Dk} (h : PD w base db sb D) : db < w.heap.size ∧ sb < w.heap.size ∧ base ≤ w.heap.size := by
  obtain ⟨vw, cs, sp, h⟩ := h
  have h1 := blk_lt h.cells
  have h2 := h.dbase
  exact ⟨h1, blk_lt h.safe, by omega⟩
theorem PD_set {w : World} {base db sb : Nat} {D : Dk} (h : PD w base db sb D) {ub T : Nat} {uc : Array Value} (hu : w.heap[ub]? = some (.cells uc T (0, 0))) (hT : T ∉ tagsP) (k : Nat) (v : Value) : PD (w.setCell ⟨ub, k, none⟩ v) base db sb D := by
  obtain ⟨vw, cs, sp, h⟩ := h
  simp only [List.mem_cons, List.not_mem_nil, or_false, not_or] at hT
  have hq : T ∉ 103 :: kW.E := fun hm => by
    have hm : T ∈ ([103, 5] : List Nat) := hm
    simp only [List.mem_cons, List.not_mem_nil, or_false] at hm
    rcases hm with e | e
    · exact hT.2.2 e
    · exact hT.2.1 e
  exact ⟨vw, cs, sp, ⟨h.ok, h.dbase, h.sbase, h.wown, (Below.heap_setCell _ _ _ _ (tag_ne h.cells hu (Ne.symm hT.1))).trans h.cells, Kd.R_set h.waits hu (fun q hm e => hq (e ▸ hm)) k v, (Below.heap_setCell _ _ _ _ (tag_ne h.safe hu (Ne.symm hT.2.1))).trans h.safe, h.room⟩⟩
theorem keep_fp {w w' : World} {base db sb ub T : Nat} {D : Dk} {uc : Array Value} (h : PD w base db sb D) (f : FP base db sb w w') (hu : w.heap[ub]? = some (.cells uc T (0, 0))) (hT : T ∉ tagsP) : w'.heap[ub]? = some (.cells uc T (0, 0)) := by
  obtain ⟨⟨_, h1⟩, _, h2⟩ := pd_tags h
  simp only [List.mem_cons, List.not_mem_nil, or_false, not_or] at hT
  exact (f.block ub (blk_lt hu) (fun e => e.elim (fun e => tag_ne hu h1 hT.1 e) (fun e => tag_ne hu h2 hT.2.1 e)) (fun c t fz hc e => by
    rw [hu] at hc
    cases hc
    exact hT.2.2 e.2)).trans hu
theorem three_set {w : World} {b t : Nat} {a0 a1 a2 : Value} (h : w.heap[b]? = some (.cells #[a0, a1, a2] t (0, 0))) (v0 v1 v2 : Value) : (((w.setCell ⟨b, 0, none⟩ v0).setCell ⟨b, 1, none⟩ v1).setCell ⟨b, 2, none⟩ v2).heap[b]? = some (.cells #[v0, v1, v2] t (0, 0)) := by
  have := blk_set (blk_set (blk_set h 0 v0) 1 v1) 2 v2
  rw [this]
  rfl
theorem three_below {w0 w : World} {base b : Nat} (h : Below base w0 w) (hb : base ≤ b) (v0 v1 v2 : Value) : Below base w0 (((w.setCell ⟨b, 0, none⟩ v0).setCell ⟨b, 1, none⟩ v1).setCell ⟨b, 2, none⟩ v2) :=
  ((h.setCell hb v0).setCell hb v1).setCell hb v2
theorem PD_three {w : World} {base db sb : Nat} {D : Dk} (h : PD w base db sb D) {ub T : Nat} {a0 a1 a2 : Value} (hu : w.heap[ub]? = some (.cells #[a0, a1, a2] T (0, 0))) (hT : T ∉ tagsP) (v0 v1 v2 : Value) : PD (((w.setCell ⟨ub, 0, none⟩ v0).setCell ⟨ub, 1, none⟩ v1).setCell ⟨ub, 2, none⟩ v2) base db sb D := by
  have h1 := blk_set hu 0 v0
  have h2 := blk_set h1 1 v1
  exact PD_set (PD_set (PD_set h hu hT 0 v0) h1 hT 1 v1) h2 hT 2 v2
theorem PD_four {w : World} {base db sb : Nat} {D : Dk} (h : PD w base db sb D) {ub T : Nat} {a0 a1 a2 a3 : Value} (hu : w.heap[ub]? = some (.cells #[a0, a1, a2, a3] T (0, 0))) (hT : T ∉ tagsP) (v0 v1 v2 v3 : Value) : PD ((((w.setCell ⟨ub, 0, none⟩ v0).setCell ⟨ub, 1, none⟩ v1).setCell ⟨ub, 2, none⟩ v2).setCell ⟨ub, 3, none⟩ v3) base db sb D := by
  have h1 := blk_set hu 0 v0
  have h2 := blk_set h1 1 v1
  have h3 := blk_set h2 2 v2
  exact PD_set (PD_set (PD_set (PD_set h hu hT 0 v0) h1 hT 1 v1) h2 hT 2 v2) h3 hT 3 v3
theorem cells3 {x : World} {b t : Nat} {v0 v1 v2 : Value} (h : x.heap[b]? = some (.cells #[v0, v1, v2] t (0, 0))) : (x.cell? ⟨b, 0, none⟩ = some v0 ∧ x.cell? ⟨b, 1, none⟩ = some v1 ∧ x.cell? ⟨b, 2, none⟩ = some v2) ∧ (x.frozen? ⟨b, 0, none⟩ = false ∧ x.frozen? ⟨b, 1, none⟩ = false ∧ x.frozen? ⟨b, 2, none⟩ = false) :=
  ⟨⟨cell_blk h, cell_blk h, cell_blk h⟩, frozen_blk h, frozen_blk h, frozen_blk h⟩
set_option maxHeartbeats 16000000 in
set_option maxRecDepth 100000 in
theorem cwrite_nil {w : World} (o : Int) (vp vt : Value) : Calls Tryz.prog 9 #[.pointer none, .int .i64 o, vp, vt] w fun r w' => r = .returned (.tuple #[partV (0, 0, 0), .int .i64 8]) ∧ Below w.heap.size w w' := by
  go_enter Tryz.func9, Tryz.ntmps9
  go_wp2_with fail
  refine bodyPost_ret (results_ct rfl _ _ w.heap.size 35 #[.int .i64 0, .int .i64 0, .int .i64 0] (0, 0) _ rfl (heap_alloc_new w _) Tryz.underlying35 rfl (by kernel_rfl)) rfl ?_
  exact ⟨rfl, (Below.refl _ _).alloc (Nat.le_refl _) _⟩
abbrev Ce := Cell.Ce
structure WS (w0 w : World) (base db sb : Nat) (E : Dk) (V : Value) (xs : List Ce) : Prop where
  pd : PD w base db sb E
  fp : FP base db sb w0 w
  dlt : db < w0.heap.size ∧ sb < w0.heap.size ∧ base ≤ w0.heap.size
  out : w.heap[w0.heap.size]? = some (.cells #[.int .i64 0, .int .i64 0, .int .i64 0] 35 (0, 0))
  row : Kd.R PChain.k70 70 w w0.heap.size (fun _ => True) V xs
theorem WS.step {w0 w w' : World} {base db sb : Nat} {E : Dk} {V : Value} {xs : List Ce} (h : WS w0 w base db sb E V xs) (f : Below w.heap.size w w') : WS w0 w' base db sb E V xs :=
  ⟨h.pd.below f, h.fp.trans (.of_below f), h.dlt, (f.block _ (blk_lt h.out)).trans h.out, Kd.R_below h.row f⟩
theorem WS.disk {w0 w w' : World} {base db sb : Nat} {E E' : Dk} {V : Value} {xs : List Ce} (h : WS w0 w base db sb E V xs) (p : PD w' base db sb E') (f : FP base db sb w w') : WS w0 w' base db sb E' V xs :=
  ⟨p, h.fp.trans f, h.dlt, keep_fp h.pd f h.out (by decide), R_fr h.row f (fun k _ hk => by have := h.dlt; omega) (fun q hq k hk => by
    have hq : q ∈ ([70, 5] : List Nat) := hq
    rw [hk.2] at hq
    revert hq
    decide)⟩
theorem zero_part {w0 w w' : World} {base db sb : Nat} {E : Dk} {V : Value} {xs : List Ce} (h : WS w0 w base db sb E V xs) (hw : w' = ((w.setCell ⟨w0.heap.size, 0, none⟩ (.int .i64 0)).setCell ⟨w0.heap.size, 1, none⟩ (.int .i64 0)).setCell ⟨w0.heap.size, 2, none⟩ (.int .i64 0)) : PD w' base db sb E ∧ FP base db sb w0 w' ∧ w'.heap[w0.heap.size]? = some (.cells #[.int .i64 0, .int .i64 0, .int .i64 0] 35 (0, 0)) := by
  rw [hw]
  exact ⟨PD_three h.pd h.out (by decide) _ _ _, Fr_then h.fp (three_below (Below.refl _ _) (Nat.le_refl _) _ _ _), three_set h.out _ _ _⟩
set_option maxHeartbeats 32000000 in
set_option maxRecDepth 100000 in
theorem cwrite_any {w : World} {base db sb : Nat} {D : Dk} (h : PD w base db sb D) (o : Int) (AP : Option Addr) (cp : Nat) (p : List Int) (A : Option Addr) (c : Nat) (t : List Int) (hP : ∀ x, FP base db sb w x → Kd.C (Kd.int .i64) x AP p.length p) (hT : Kd.C (Kd.int .u8) w A t.length t) (hcp : p.length ≤ cp) (hct : t.length ≤ c) (hb : ∀ x ∈ t, 0 ≤ x ∧ x ≤ 255) (ht : t.length ≤ 100000) (hp : p.length ≤ 1000) (hfew : D.waits.length ≤ 900000) :
    Calls Tryz.prog 9 #[.pointer (some ⟨db, 0, none⟩), .int .i64 o, .slice AP p.length cp, .slice A t.length c] w fun e w' => e = .returned (.tuple #[partV (chW D o p t).2.1, .int .i64 (chW D o p t).2.2]) ∧ PD w' base db sb (chW D o p t).1 ∧ FP base db sb w w' := by
  have HPR := Aside0.mk hP
  have HTR := Aside0.mk hT
  have HBY := Aside0.mk hb
  have HFW := Aside0.mk hfew
  have HPL := Aside0.mk hp
  have HTL := Aside0.mk ht
  obtain ⟨w1, hw1⟩ : ∃ w1, w1 = w.alloc (.cells #[.int .i64 0, .int .i64 0, .int .i64 0] 35) := ⟨_, rfl⟩
  have b1 : Below w.heap.size w w1 := by rw [hw1]; exact (Below.refl _ _).alloc (Nat.le_refl _) _
  have HWS := Aside0.mk (show WS w w1 base db sb D (.slice none 0 0) [] from ⟨h.below b1, .of_below b1, pd_lt h, by rw [hw1]; exact heap_alloc_new w _, Kd.R_nil _ _ _ _ _⟩)
  have HW1 := Aside0.mk hw1
  have HB1 := Aside0.mk b1
  obtain ⟨R, hR⟩ : ∃ R, R = chW D o p t := ⟨_, rfl⟩
  rw [← hR]
  have HR := Aside0.mk hR
  obtain ⟨PC, hPC⟩ : ∃ PC, PC = Cell.cutP o p t := ⟨_, rfl⟩
  have hcu := Cell.cut_R (w := w1) o AP cp p A c t (hP w1 (.of_below b1)) (Kd.C_below hT b1) hcp hct ht (by omega) hb
  rw [← hPC] at hcu
  have HPC := Aside0.mk hPC
  have HCU := Aside0.mk hcu
  clear hP hT hb hfew hp ht hR hPC hcu hw1 b1 h
  go_enter Tryz.func9, Tryz.ntmps9
  go_wp2_with fail
  rw [← HW1.out]
  refine HCU.out.mono ?_
  clear HCU HW1
  rintro r w2 ⟨A2, c2, rfl, hc2, hC2, b2, hr2⟩
  have HR2 := Aside0.mk (Kd.R_lower (base' := w.heap.size) hr2 HB1.out.size)
  have HS := HWS.out.step b2
  have HWS2 := Aside0.mk (show WS w w2 base db sb D (.slice A2 PC.1.length c2) PC.1 from ⟨HS.pd, HS.fp, HS.dlt, HS.out, HR2.out⟩)
  have HB2 := Aside0.mk (HB1.out.trans (b2.mono HB1.out.size))
  clear HS hr2 hC2 b2 HWS HR2 HB1
  obtain ⟨ec, hec⟩ : ∃ ec, ec = PC.2 := ⟨_, rfl⟩
  have HEC := Aside0.mk hec
  rw [← hec]
  clear hec
  by_cases he : ec ≠ 0
  · have HRV := Aside0.mk (show R = (D, (0, 0, 0), ec) by rw [HR.out]; unfold chW; rw [← HPC.out, ← HEC.out, if_pos he])
    have hou := HWS2.out.out
    obtain ⟨⟨k0, k1, k2⟩, f0, f1, f2⟩ := cells3 hou
    clear hou
    go_wp2_with fail
    obtain ⟨w3, hw3⟩ : ∃ w3, w3 = ((w2.setCell ⟨w.heap.size, 0, none⟩ (.int .i64 0)).setCell ⟨w.heap.size, 1, none⟩ (.int .i64 0)).setCell ⟨w.heap.size, 2, none⟩ (.int .i64 0) := ⟨_, rfl⟩
    obtain ⟨hq1, hq2, hq3⟩ := zero_part HWS2.out hw3
    rw [← hw3]
    refine bodyPost_ret (results_ct rfl _ _ w.heap.size 35 #[.int .i64 0, .int .i64 0, .int .i64 0] (0, 0) _ rfl hq3 Tryz.underlying35 rfl (by kernel_rfl)) rfl ?_
    exact ⟨by rw [HRV.out]; rfl, by rw [HRV.out]; exact hq1, hq2⟩
  · have he0 : ec = 0 := Classical.byContradiction he
    subst he0
    clear he
    obtain ⟨hc1, hoks, hpos, hneed⟩ := cut_ok (o := o) (p := p) (t := t) (by rw [← HPC.out]; exact HEC.out.symm)
    have HCS := Aside0.mk (show PC.1 = Cell.cellsAt o p t p.length by rw [HPC.out]; exact hc1)
    have HLC := Aside0.mk (show PC.1.length = p.length by rw [HPC.out, hc1, Cell.cellsAt_len])
    have HRV := Aside0.mk (show R = if apartP D.safe.length p = true then (if (wrN o p t D p.length).2 ≠ 0 then ((wrN o p t D p.length).1, (0, 0, 0), (wrN o p t D p.length).2) else ((wrN o p t D p.length).1, (p.getD 0 0, (t.length : Int), o), 0)) else (D, (0, 0, 0), 1) by rw [HR.out]; unfold chW; rw [← HPC.out, ← HEC.out, if_neg (by simp)])
    have HOKS := Aside0.mk hoks
    have HPOS := Aside0.mk hpos
    clear hc1 hoks hpos hneed HR HEC
    rw [HCS.out, Cell.cellsAt_len] at HWS2 hc2 ⊢
    have hbk := Disk.blocks_any HWS2.out.pd
    obtain ⟨n, hn⟩ : ∃ n : Int, n = (D.safe.length : Int) := ⟨_, rfl⟩
    have hap := apart_any (w := w2) n AP cp p (HPR.out _ HWS2.out.fp) hcp (by have := HPL.out; omega) (by rw [hn]; have := HWS2.out.pd.ok.few; omega)
    rw [← hn] at hbk HRV
    have HBK := Aside0.mk hbk
    have HAP := Aside0.mk hap
    clear hbk hap hn
    go_wp2_with fail
    refine HBK.out.mono ?_
    clear HBK
    rintro r w3 ⟨rfl, hw3⟩
    obtain rfl : w3 = w2 := hw3
    go_wp2_with fail
    refine HAP.out.mono ?_
    clear HAP
    rintro r w4 ⟨rfl, b4⟩
    have HWS4 := Aside0.mk (HWS2.out.step b4)
    have HB4 := Aside0.mk (HB2.out.trans (b4.mono HB2.out.size))
    clear b4 HWS2 HB2
    obtain ⟨ap, hap⟩ : ∃ ap, ap = apartP n p := ⟨_, rfl⟩
    rw [← hap] at HRV ⊢
    clear hap
    cases ap with
    | false =>
      have HRW := Aside0.mk (show R = (D, (0, 0, 0), 1) by rw [HRV.out, if_neg (by simp)])
      have hou := HWS4.out.out
      obtain ⟨⟨k0, k1, k2⟩, f0, f1, f2⟩ := cells3 hou
      clear hou
      go_wp2_with fail
      obtain ⟨w5, hw5⟩ : ∃ w5, w5 = ((w4.setCell ⟨w.heap.size, 0, none⟩ (.int .i64 0)).setCell ⟨w.heap.size, 1, none⟩ (.int .i64 0)).setCell ⟨w.heap.size, 2, none⟩ (.int .i64 0) := ⟨_, rfl⟩
      obtain ⟨hq1, hq2, hq3⟩ := zero_part HWS4.out hw5
      rw [← hw5]
      refine bodyPost_ret (results_ct rfl _ _ w.heap.size 35 #[.int .i64 0, .int .i64 0, .int .i64 0] (0, 0) _ rfl hq3 Tryz.underlying35 rfl (by kernel_rfl)) rfl ?_
      exact ⟨by rw [HRW.out]; rfl, by rw [HRW.out]; exact hq1, hq2⟩
    | true =>
      have HRW := Aside0.mk (show R = if (wrN o p t D p.length).2 ≠ 0 then ((wrN o p t D p.length).1, (0, 0, 0), (wrN o p t D p.length).2) else ((wrN o p t D p.length).1, (p.getD 0 0, (t.length : Int), o), 0) by rw [HRV.out, if_pos rfl])
      clear HRV
      obtain ⟨xs, hxs⟩ : ∃ xs, xs = Cell.cellsAt o p t p.length := ⟨_, rfl⟩
      rw [← hxs] at HWS4
      have HXS := Aside0.mk hxs
      clear hxs
      go_wp2_with fail
      go_loopg [39] p.length (fun gk v39 wr => ∃ (i : Nat) (E : Dk), Aside0 (i + gk = p.length) ∧ v39 = .int .i64 i ∧ Aside0 (wrN o p t D i = (E, 0)) ∧ Aside0 (WS w wr base db sb E (.slice A2 p.length c2) xs))
      case atStart => exact ⟨0, D, ⟨by omega⟩, rfl, ⟨rfl⟩, HWS4⟩
      case round =>
        clear HWS4
        obtain ⟨i, E, HI, rfl, HE, HW⟩ := hrel
        by_cases hi : i < p.length
        · have hii : (i : Int) < (p.length : Int) := by omega
          obtain ⟨hl1, hl2, hKC⟩ := Kd.R_reads' HW.out.row
          have hxl : xs.length = p.length := by rw [HXS.out, Cell.cellsAt_len]
          rw [hxl] at hKC
          obtain ⟨ad, A3, c3, rfl, h0, h1, h2, h3, l3, g3⟩ := PChain.at_T70 hKC (i : Int) (by omega) (by omega)
          rw [Int.toNat_natCast, HXS.out, Cell.cellsAt_get o p t p.length i hi] at h0 h1 h2 h3
          rw [HXS.out, Cell.cellsAt_get o p t p.length i hi] at l3 g3
          clear hl1 hl2 hKC hxl
          obtain ⟨nx, hnx⟩ : ∃ nx, nx = Cell.nextOf p i := ⟨_, rfl⟩
          obtain ⟨d, hd⟩ : ∃ d, d = Cell.pieceOf t i := ⟨_, rfl⟩
          have hbd : ∀ y ∈ d, 0 ≤ y ∧ y ≤ 255 := fun y hy => by rw [hd] at hy; exact HBY.out y (List.mem_of_mem_drop (List.mem_of_mem_take hy))
          have HBL := Aside0.mk (show blkC o p t i = (Cell.putP o i nx d).1 by rw [hnx, hd]; rfl)
          simp only [Cell.cellOf] at h0 h1 h2 h3 l3 g3
          rw [← hnx] at h2
          rw [← hd] at h3 l3 g3
          have HBD := Aside0.mk hbd
          have HG3 := Aside0.mk g3
          clear hnx hd hbd g3
          go_upto_region 11 with (fail)
          obtain ⟨w5, hw5⟩ : ∃ w5, w5 = wr.alloc (.cells #[.int .i64 o, .int .i64 i, .int .i64 nx, .slice A3 d.length c3] 70) := ⟨_, rfl⟩
          have b5 : Below wr.heap.size wr w5 := by rw [hw5]; exact (Below.refl _ _).alloc (Nat.le_refl _) _
          have HWS5 := Aside0.mk (HW.out.step b5)
          have hbx : w5.heap[wr.heap.size]? = some (.cells #[.int .i64 o, .int .i64 i, .int .i64 nx, .slice A3 d.length c3] 70 (0, 0)) := by rw [hw5]; exact heap_alloc_new wr _
          have k0 : w5.cell? ⟨wr.heap.size, 0, none⟩ = some (.int .i64 o) := cell_blk hbx
          have k1 : w5.cell? ⟨wr.heap.size, 1, none⟩ = some (.int .i64 i) := cell_blk hbx
          have k2 : w5.cell? ⟨wr.heap.size, 2, none⟩ = some (.int .i64 nx) := cell_blk hbx
          have k3 : w5.cell? ⟨wr.heap.size, 3, none⟩ = some (.slice A3 d.length c3) := cell_blk hbx
          have hpu := Cell.put_any (w := w5) o i nx A3 c3 d (Kd.C_below HG3.out b5) l3 HBD.out
          obtain ⟨PB, hPB⟩ : ∃ PB, PB = Cell.putP o i nx d := ⟨_, rfl⟩
          rw [← hPB] at hpu HBL
          have HPU := Aside0.mk hpu
          have HPBB := Aside0.mk (show ∀ y ∈ PB.1, 0 ≤ y ∧ y ≤ 255 from Cell.put_byte HBD.out hPB)
          rw [← hw5]
          clear hw5 b5 hbx hpu hPB h0 h1 h2 h3
          go_wp2_with fail
          refine HPU.out.mono ?_
          clear HPU
          rintro r w6 ⟨v6, rfl, hr6, b6⟩
          have HWS6 := Aside0.mk (HWS5.out.step b6)
          have HR6 := Aside0.mk hr6
          obtain ⟨A6, c6, rfl⟩ := Kd.R_slice hr6
          clear b6 hr6 k0 k1 k2 k3 HW HWS5 HG3
          obtain ⟨ap, hap, hcp6⟩ := Kd.at_int (HPR.out _ HWS6.out.fp) (i : Int) (by omega) (by omega)
          subst hap
          rw [Int.toNat_natCast] at hcp6
          obtain ⟨pl, hpl⟩ : ∃ pl, pl = rd p i := ⟨_, rfl⟩
          have HPLC := Aside0.mk (show p.getD i 0 = pl by rw [hpl]; rfl)
          rw [← hpl] at hcp6
          clear hpl
          obtain ⟨W, hW⟩ : ∃ W, W = writeD E pl PB.1 := ⟨_, rfl⟩
          have hwt : E.waits.length ≤ D.waits.length + i := by have q := wr_waits o p t D i; rw [HE.out] at q; exact q
          have hwr := Disk.write_uni HWS6.out.pd pl A6 c6 PB.1 HPBB.out (fun y hy => (Kd.R_reads' (Kd.R_below HR6.out hy)).2.2) (by have := HFW.out; have := HPL.out; omega)
          rw [← hW] at hwr
          have HWR := Aside0.mk hwr
          have HNX := Aside0.mk (show wrN o p t D (i + 1) = W by
            show (if (wrN o p t D i).2 ≠ 0 then wrN o p t D i else writeD (wrN o p t D i).1 (p.getD i 0) (blkC o p t i)) = W
            rw [HE.out, if_neg (by simp), HPLC.out, HBL.out, hW])
          clear hW hwt hwr
          go_wp2_with fail
          refine HWR.out.mono ?_
          clear HWR
          rintro r w7 ⟨rfl, hp7, hf7⟩
          have HWS7 := Aside0.mk (HWS6.out.disk hp7 hf7)
          clear hp7 hf7 HWS6 HR6 hcp6
          obtain ⟨e, he⟩ : ∃ e, e = W.2 := ⟨_, rfl⟩
          have HEW := Aside0.mk he
          rw [← he]
          clear he
          by_cases he0 : e ≠ 0
          · have HRZ := Aside0.mk (show R = (W.1, (0, 0, 0), e) by
              rw [HRW.out, wr_stop o p t D (i + 1) (by rw [HNX.out, ← HEW.out]; exact he0) p.length (by omega), HNX.out, ← HEW.out, if_pos he0])
            have hou := HWS7.out.out
            obtain ⟨⟨k0, k1, k2⟩, f0, f1, f2⟩ := cells3 hou
            clear hou
            go_wp2_with fail
            obtain ⟨w8, hw8⟩ : ∃ w8, w8 = ((w7.setCell ⟨w.heap.size, 0, none⟩ (.int .i64 0)).setCell ⟨w.heap.size, 1, none⟩ (.int .i64 0)).setCell ⟨w.heap.size, 2, none⟩ (.int .i64 0) := ⟨_, rfl⟩
            obtain ⟨hq1, hq2, hq3⟩ := zero_part HWS7.out hw8
            rw [← hw8]
            refine bodyPost_ret (results_ct rfl _ _ w.heap.size 35 #[.int .i64 0, .int .i64 0, .int .i64 0] (0, 0) _ rfl hq3 Tryz.underlying35 rfl (by kernel_rfl)) rfl ?_
            exact ⟨by rw [HRZ.out]; rfl, by rw [HRZ.out]; exact hq1, hq2⟩
          · have he1 : e = 0 := Classical.byContradiction he0
            subst he1
            clear he0
            have HE7 := Aside0.mk (show wrN o p t D (i + 1) = (W.1, 0) by rw [HNX.out, HEW.out])
            go_wp2_with fail
            go_roundg (p.length - (i + 1))
            case measure => have := HI.out; omega
            case rel => exact ⟨i + 1, W.1, ⟨by have := HI.out; omega⟩, congrArg (Value.int .i64) (up1 i (by have := HPL.out; omega)), HE7, HWS7⟩
        · have hii : ¬ ((i : Int) < (p.length : Int)) := by omega
          have hiv : i = p.length := by have := HI.out; omega
          subst hiv
          obtain ⟨ap, hap, hcp6⟩ := Kd.at_int (HPR.out _ HW.out.fp) 0 (by omega) (by have := HPOS.out; omega)
          subst hap
          rw [show Int.toNat 0 = 0 from rfl, show ap.add 0 = ap from by simp [Addr.add]] at hcp6
          obtain ⟨pl, hpl⟩ : ∃ pl, pl = rd p 0 := ⟨_, rfl⟩
          have HPLC := Aside0.mk (show p.getD 0 0 = pl by rw [hpl]; rfl)
          rw [← hpl] at hcp6
          clear hpl
          have HRZ := Aside0.mk (show R = (E, (pl, (t.length : Int), o), 0) by rw [HRW.out, HE.out, if_neg (by simp), HPLC.out])
          have hou := HW.out.out
          obtain ⟨⟨k0, k1, k2⟩, f0, f1, f2⟩ := cells3 hou
          have hp0 : (0 : Int) < (p.length : Int) := by have := HPOS.out; omega
          clear hou
          go_wp2_with fail
          refine bodyPost_ret (results_ct rfl _ _ w.heap.size 35 #[.int .i64 pl, .int .i64 t.length, .int .i64 o] (0, 0) _ rfl (three_set HW.out.out _ _ _) Tryz.underlying35 rfl (by kernel_rfl)) rfl ?_
          exact ⟨by rw [HRZ.out]; rfl, by rw [HRZ.out]; exact PD_three HW.out.pd HW.out.out (by decide) _ _ _, Fr_then HW.out.fp (three_below (Below.refl _ _) (Nat.le_refl _) _ _ _)⟩
end Ch
end Go.Proofs.YtclneeamemofoaaGreat
end
section
namespace Go.Proofs.YtclneeamemofoaaGreat
set_option linter.unusedVariables false
set_option linter.unusedSimpArgs false
open Go.RowKit Go.Proofs.YtclneeamemofoaaGreatW.PrintWords Go.Proofs.YtclneeamemofoaaGreatW.PrintLast Go.Proofs.YtclneeamemofoaaGreatW.PrintMore
namespace Ch
open Go.Disk Go.Proofs.YtclneeamemofoaaGreat.Disk
theorem get_uni {w : World} (A : Option Addr) (c : Nat) (l : List Int) (hC : Kd.C (Kd.int .u8) w A l.length l) (hb : ∀ y ∈ l, 0 ≤ y ∧ y ≤ 255) (hc : l.length ≤ c) (hl : l.length ≤ 200000) :
    Calls Tryz.prog 69 #[.slice A l.length c] w fun e w' => ∃ v, e = .returned (.tuple #[.agg #[.int .i64 (Cell.getP l).1.o, .int .i64 (Cell.getP l).1.n, .int .i64 (Cell.getP l).1.x, v], .int .i64 (Cell.getP l).2]) ∧ Kd.R (Kd.int .u8) 5 w' w.heap.size (fun _ => True) v (Cell.getP l).1.d ∧ Below w.heap.size w w' := by
  by_cases h : l.length ≠ 256 ∨ (Cell.openP l).2 ≠ 0
  · refine (Cell.get_no A c l hC hb hc hl h).mono ?_
    rintro e w' ⟨he, hbl⟩
    have hz : (Cell.getP l).1 = Cell.zeroC := by
      unfold Cell.getP
      split
      · rfl
      · rename_i h1
        rw [if_pos (by rcases h with h | h; exact absurd h h1; exact h)]
    rw [hz]
    exact ⟨_, he, Kd.R_nil _ _ _ _ _, hbl⟩
  · have h1 : l.length = 256 := Classical.byContradiction fun e => h (.inl e)
    have h2 : (Cell.openP l).2 = 0 := Classical.byContradiction fun e => h (.inr e)
    exact Cell.get_yes A c l hC hb hc h1 h2
def linkOk (o k : Int) (g : Cell.Cel × Int) : Bool := decide (g.2 = 0 ∧ g.1.o = o ∧ g.1.n = k)
abbrev zcell : Array Value := #[.int .i64 0, .int .i64 0, .int .i64 0, .slice none 0 0]
theorem cells4 {x : World} {b t : Nat} {v0 v1 v2 v3 : Value} (h : x.heap[b]? = some (.cells #[v0, v1, v2, v3] t (0, 0))) : (x.cell? ⟨b, 0, none⟩ = some v0 ∧ x.cell? ⟨b, 1, none⟩ = some v1 ∧ x.cell? ⟨b, 2, none⟩ = some v2 ∧ x.cell? ⟨b, 3, none⟩ = some v3) ∧ (x.frozen? ⟨b, 0, none⟩ = false ∧ x.frozen? ⟨b, 1, none⟩ = false ∧ x.frozen? ⟨b, 2, none⟩ = false ∧ x.frozen? ⟨b, 3, none⟩ = false) :=
  ⟨⟨cell_blk h, cell_blk h, cell_blk h, cell_blk h⟩, frozen_blk h, frozen_blk h, frozen_blk h, frozen_blk h⟩
def LinkEnd (o k : Int) (g : Cell.Cel × Int) (w w' : World) (e : Ending) : Prop :=
  if linkOk o k g = true then ∃ v, e = .returned (.tuple #[.agg #[.int .i64 g.1.o, .int .i64 g.1.n, .int .i64 g.1.x, v], .nilIface]) ∧ Kd.R (Kd.int .u8) 5 w' w.heap.size (fun _ => True) v g.1.d
  else e = .returned (.tuple #[.agg zcell, .iface 92 (.agg #[])])
theorem LinkEnd.no {o k : Int} {g : Cell.Cel × Int} {w w' : World} {e : Ending} (h : linkOk o k g = false) (he : e = .returned (.tuple #[.agg zcell, .iface 92 (.agg #[])])) : LinkEnd o k g w w' e := by
  unfold LinkEnd; rw [h]; exact he
theorem LinkEnd.yes {o k a b x : Int} {d : List Int} {g : Cell.Cel × Int} {w w' : World} {e : Ending} {v : Value} (h : linkOk o k g = true) (ha : a = g.1.o) (hb : b = g.1.n) (hx : x = g.1.x) (hd : d = g.1.d) (he : e = .returned (.tuple #[.agg #[.int .i64 a, .int .i64 b, .int .i64 x, v], .nilIface])) (hr : Kd.R (Kd.int .u8) 5 w' w.heap.size (fun _ => True) v d) : LinkEnd o k g w w' e := by
  unfold LinkEnd; rw [if_pos h]; subst ha hb hx hd; exact ⟨v, he, hr⟩
theorem R_four {α : Type} {d : Kd α} {e base : Nat} {ok : Nat → Prop} {v : Value} {xs : List α} {w : World} {ub T : Nat} {a0 a1 a2 a3 : Value} (h : d.R e w base ok v xs) (hu : w.heap[ub]? = some (.cells #[a0, a1, a2, a3] T (0, 0))) (hT : ∀ q, q ∈ e :: d.E → q ≠ T) (v0 v1 v2 v3 : Value) : d.R e ((((w.setCell ⟨ub, 0, none⟩ v0).setCell ⟨ub, 1, none⟩ v1).setCell ⟨ub, 2, none⟩ v2).setCell ⟨ub, 3, none⟩ v3) base ok v xs := by
  have h1 := blk_set hu 0 v0
  have h2 := blk_set h1 1 v1
  have h3 := blk_set h2 2 v2
  exact Kd.R_set (Kd.R_set (Kd.R_set (Kd.R_set h hu hT 0 v0) h1 hT 1 v1) h2 hT 2 v2) h3 hT 3 v3
structure LS (w0 w : World) (base db sb : Nat) (E : Dk) (f s o : Int) : Prop where
  pd : PD w base db sb E
  fp : FP base db sb w0 w
  part : w.heap[w0.heap.size]? = some (.cells #[.int .i64 f, .int .i64 s, .int .i64 o] 35 (0, 0))
  out : w.heap[w0.heap.size + 1]? = some (.cells #[.int .i64 0, .int .i64 0, .int .i64 0, .slice none 0 0] 70 (0, 0))
theorem LS.step {w0 w w' : World} {base db sb : Nat} {E : Dk} {f s o : Int} (h : LS w0 w base db sb E f s o) (k : Below w.heap.size w w') : LS w0 w' base db sb E f s o :=
  ⟨h.pd.below k, h.fp.trans (.of_below k), (k.block _ (blk_lt h.part)).trans h.part, (k.block _ (blk_lt h.out)).trans h.out⟩
theorem LS.disk {w0 w w' : World} {base db sb : Nat} {E E' : Dk} {f s o : Int} (h : LS w0 w base db sb E f s o) (p : PD w' base db sb E') (k : FP base db sb w w') : LS w0 w' base db sb E' f s o :=
  ⟨p, h.fp.trans k, keep_fp h.pd k h.part (by decide), keep_fp h.pd k h.out (by decide)⟩
set_option maxHeartbeats 32000000 in
set_option maxRecDepth 100000 in
theorem link_any {w : World} {base db sb : Nat} {D : Dk} (h : PD w base db sb D) (f s o at_ k : Int) (h2 : 2 ≤ at_) (hr : ready D at_ = 0) (hfew : D.waits.length ≤ 1000000000) (g : Cell.Cel × Int) (hg : g = Cell.getP (nowD D at_)) :
    Calls Tryz.prog 44 #[.pointer (some ⟨db, 0, none⟩), .agg #[.int .i64 f, .int .i64 s, .int .i64 o], .int .i64 at_, .int .i64 k] w fun e w' =>
      LinkEnd o k g w w' e ∧ PD w' base db sb (readD D) ∧ FP base db sb w w' := by
  obtain ⟨w1, hw1⟩ : ∃ w1, w1 = (w.alloc (.cells #[.int .i64 f, .int .i64 s, .int .i64 o] 35)).alloc (.cells zcell 70) := ⟨_, rfl⟩
  have b1 : Below w.heap.size w w1 := by rw [hw1]; exact ((Below.refl _ _).alloc (Nat.le_refl _) _).alloc (by simp) _
  have HLS := Aside0.mk (show LS w w1 base db sb D f s o from ⟨h.below b1, .of_below b1, by rw [hw1]; exact (((Below.refl _ (w.alloc (.cells #[.int .i64 f, .int .i64 s, .int .i64 o] 35))).alloc (Nat.le_refl _) (.cells zcell 70)).block _ (by simp)).trans (heap_alloc_new w _), by rw [hw1]; have := heap_alloc_new (w.alloc (.cells #[.int .i64 f, .int .i64 s, .int .i64 o] 35)) (.cells zcell 70); simpa using this⟩)
  have HW1 := Aside0.mk hw1
  have hrd := read_yes HLS.out.pd at_ hr hfew
  obtain ⟨V, hV⟩ : ∃ V, V = nowD D at_ := ⟨_, rfl⟩
  have hvl := now_len h.ok at_ (by have q := hr; unfold Go.Disk.ready at q; split at q; cases q; split at q; cases q; omega)
  rw [← hV] at hrd hg hvl
  have HRD := Aside0.mk (hrd)
  have HVL := Aside0.mk hvl
  have HG := Aside0.mk hg
  have HR := Aside0.mk hr
  have h2b : decide (at_ < 2) = false := decide_eq_false (by omega)
  clear hw1 b1 hvl hrd hV hr h
  go_enter Tryz.func44, Tryz.ntmps44
  go_wp2_with fail
  rw [show ((w.alloc (.cells #[.int .i64 f, .int .i64 s, .int .i64 o] 35)).alloc (.cells #[.int .i64 0, .int .i64 0, .int .i64 0, .slice none 0 0] 70)) = w1 from HW1.out.symm]
  refine HRD.out.mono ?_
  clear HRD HW1
  rintro r w2 ⟨v2, rfl, hr2, hp2, hf2⟩
  have HLS2 := Aside0.mk (HLS.out.disk hp2 hf2)
  obtain ⟨A2, c2, rfl⟩ := Kd.R_slice hr2
  have HR2 := Aside0.mk hr2
  clear hp2 hf2 hr2 HLS
  go_upto_region 6 with (fail)
  obtain ⟨hn2, hc2, hC2⟩ := Kd.R_reads' HR2.out
  have hge := get_uni (w := w2) A2 c2 V hC2 HVL.out.2 hc2 (by rw [HVL.out.1]; decide)
  rw [← HG.out] at hge
  have HGE := Aside0.mk hge
  clear hge hn2 hc2 hC2
  go_wp2_with fail
  refine HGE.out.mono ?_
  clear HGE
  rintro r w3 ⟨v3, rfl, hr3, b3⟩
  have HLS3 := Aside0.mk (HLS2.out.step b3)
  have HW23 := Aside0.mk b3
  have HSZ2 := Aside0.mk (show w.heap.size ≤ w2.heap.size from HLS2.out.fp.size)
  obtain ⟨A3, c3, rfl⟩ := Kd.R_slice hr3
  have HR3 := Aside0.mk (Kd.R_lower (base' := w.heap.size) hr3 HSZ2.out)
  clear hr3 b3 HLS2 HR2
  obtain ⟨q, hq⟩ : ∃ q, q = g.2 := ⟨_, rfl⟩
  obtain ⟨go, hgo⟩ : ∃ x, x = g.1.o := ⟨_, rfl⟩
  obtain ⟨gn, hgn⟩ : ∃ x, x = g.1.n := ⟨_, rfl⟩
  obtain ⟨gx, hgx⟩ : ∃ x, x = g.1.x := ⟨_, rfl⟩
  obtain ⟨d, hd⟩ : ∃ x, x = g.1.d := ⟨_, rfl⟩
  have HGO := Aside0.mk hgo
  have HGN := Aside0.mk hgn
  have HGX := Aside0.mk hgx
  have HGD := Aside0.mk hd
  have HLK := Aside0.mk (show linkOk o k g = decide (q = 0 ∧ go = o ∧ gn = k) by rw [hq, hgo, hgn]; rfl)
  rw [← hq, ← hgo, ← hgn, ← hgx, ← hd]
  rw [← hd] at HR3
  clear hq hgo hgn hgx hd hg HG
  go_upto_region 7 with (fail)
  obtain ⟨w4, hw4⟩ : ∃ w4, w4 = w3.alloc (.cells #[.int .i64 go, .int .i64 gn, .int .i64 gx, .slice A3 d.length c3] 70) := ⟨_, rfl⟩
  have b4 : Below w3.heap.size w3 w4 := by rw [hw4]; exact (Below.refl _ _).alloc (Nat.le_refl _) _
  have hbx : w4.heap[w3.heap.size]? = some (.cells #[.int .i64 go, .int .i64 gn, .int .i64 gx, .slice A3 d.length c3] 70 (0, 0)) := by rw [hw4]; exact heap_alloc_new w3 _
  have HLS4 := Aside0.mk (HLS3.out.step b4)
  have HR4 := Aside0.mk (Kd.R_below HR3.out b4)
  rw [← hw4]
  obtain ⟨cb, hcb⟩ : ∃ cb, cb = w3.heap.size := ⟨_, rfl⟩
  rw [← hcb] at hbx ⊢
  obtain ⟨zb, hzb⟩ : ∃ zb, zb = w.heap.size + 1 := ⟨_, rfl⟩
  have HZB := Aside0.mk hzb
  have hou := HLS4.out.out
  rw [← hzb] at hou ⊢
  have HOU := Aside0.mk hou
  clear hw4 b4 hcb HLS3 HR3 hzb
  obtain ⟨⟨k0, k1, k2, k3⟩, _⟩ := cells4 hbx
  obtain ⟨⟨m0, m1, m2⟩, _⟩ := cells3 HLS4.out.part
  obtain ⟨⟨z0, z1, z2, z3⟩, y0, y1, y2, y3⟩ := cells4 hou
  have HBX := Aside0.mk hbx
  clear hbx hou
  by_cases c1 : q = 0
  · subst c1
    by_cases c2 : go = o
    · subst c2
      by_cases c3' : gn = k
      · subst c3'
        have HOK := Aside0.mk (show linkOk go gn g = true by rw [HLK.out]; simp)
        go_wp2_with fail
        refine bodyPost_ret (results_ct rfl _ _ zb 70 #[.int .i64 go, .int .i64 gn, .int .i64 gx, .slice A3 d.length c3] (0, 0) _ rfl (Cell.four_set HOU.out _ _ _ _) Tryz.underlying70 rfl (by kernel_rfl)) rfl ?_
        exact ⟨LinkEnd.yes HOK.out HGO.out HGN.out HGX.out HGD.out rfl (R_four HR4.out HOU.out (by decide) _ _ _ _), PD_four HLS4.out.pd HOU.out (by decide) _ _ _ _, Fr_then HLS4.out.fp (Cell.four_below (Below.refl _ _) (by have := HZB.out; omega) _ _ _ _)⟩
      · have HNO := Aside0.mk (show linkOk go k g = false by rw [HLK.out]; exact decide_eq_false (fun h => c3' h.2.2))
        have c3b : (gn != k) = true := by simpa using c3'
        go_wp2_with fail
        refine bodyPost_ret (results_ct rfl _ _ zb 70 zcell (0, 0) _ rfl (Cell.four_set HOU.out _ _ _ _) Tryz.underlying70 rfl (by kernel_rfl)) rfl ?_
        exact ⟨LinkEnd.no HNO.out rfl, PD_four HLS4.out.pd HOU.out (by decide) _ _ _ _, Fr_then HLS4.out.fp (Cell.four_below (Below.refl _ _) (by have := HZB.out; omega) _ _ _ _)⟩
    · have HNO := Aside0.mk (show linkOk o k g = false by rw [HLK.out]; exact decide_eq_false (fun h => c2 h.2.1))
      have c2b : (go != o) = true := by simpa using c2
      go_wp2_with fail
      refine bodyPost_ret (results_ct rfl _ _ zb 70 zcell (0, 0) _ rfl (Cell.four_set HOU.out _ _ _ _) Tryz.underlying70 rfl (by kernel_rfl)) rfl ?_
      exact ⟨LinkEnd.no HNO.out rfl, PD_four HLS4.out.pd HOU.out (by decide) _ _ _ _, Fr_then HLS4.out.fp (Cell.four_below (Below.refl _ _) (by have := HZB.out; omega) _ _ _ _)⟩
  · have HNO := Aside0.mk (show linkOk o k g = false by rw [HLK.out]; exact decide_eq_false (fun h => c1 h.1))
    have c1b : (q != 0) = true := by simpa using c1
    go_wp2_with fail
    refine bodyPost_ret (results_ct rfl _ _ zb 70 zcell (0, 0) _ rfl (Cell.four_set HOU.out _ _ _ _) Tryz.underlying70 rfl (by kernel_rfl)) rfl ?_
    exact ⟨LinkEnd.no HNO.out rfl, PD_four HLS4.out.pd HOU.out (by decide) _ _ _ _, Fr_then HLS4.out.fp (Cell.four_below (Below.refl _ _) (by have := HZB.out; omega) _ _ _ _)⟩
end Ch
end Go.Proofs.YtclneeamemofoaaGreat
end
section
namespace Go.Proofs.YtclneeamemofoaaGreat
set_option linter.unusedVariables false
set_option linter.unusedSimpArgs false
open Go.RowKit Go.Proofs.YtclneeamemofoaaGreatW.PrintWords Go.Proofs.YtclneeamemofoaaGreatW.PrintLast Go.Proofs.YtclneeamemofoaaGreatW.PrintMore
namespace Ch
open Go.Disk Go.Proofs.YtclneeamemofoaaGreat.Disk
def rdN (D : Dk) : Nat → Dk
  | 0 => D
  | k + 1 => readD (rdN D k)
theorem rdN_same (D : Dk) : ∀ k, (rdN D k).safe = D.safe ∧ (rdN D k).waits = D.waits ∧ (rdN D k).off = D.off ∧ (rdN D k).left = D.left
  | 0 => ⟨rfl, rfl, rfl, rfl⟩
  | k + 1 => rdN_same D k
theorem ready_rdN (D : Dk) (k : Nat) (n : Int) : ready (rdN D k) n = ready D n := by
  unfold Go.Disk.ready
  rw [(rdN_same D k).1, (rdN_same D k).2.2.1]
theorem now_rdN (D : Dk) (k : Nat) (n : Int) : nowD (rdN D k) n = nowD D n := by
  unfold nowD
  rw [(rdN_same D k).1, (rdN_same D k).2.1]
def partOk (f s o n : Int) : Bool := decide (1 ≤ s ∧ s ≤ 262144 ∧ 2 ≤ f ∧ f < n ∧ 1 ≤ o ∧ o ≤ 2147483647)
theorem part_plain (f s o n : Int) : PChain.chain_Part.f f s o n = some (partOk f s o n) := by
  unfold PChain.chain_Part.f partOk
  repeat' split
  all_goals first | (rw [Option.some_inj]; exact (decide_eq_false (by omega)).symm) | (rw [Option.some_inj]; congr 1; rw [eq_iff_iff]; constructor <;> intro h <;> omega)
theorem part_any {w : World} (f s o n : Int) : Calls Tryz.prog 18 #[.agg #[.int .i64 f, .int .i64 s, .int .i64 o], .int .i64 n] w fun e w' => e = .returned (.bool (partOk f s o n)) ∧ Below w.heap.size w w' :=
  PChain.chain_Part.calls f s o n _ w (part_plain f s o n)
set_option maxHeartbeats 16000000 in
set_option maxRecDepth 100000 in
theorem cread_nil {w : World} (f s o : Int) : Calls Tryz.prog 16 #[.pointer none, .agg #[.int .i64 f, .int .i64 s, .int .i64 o]] w fun r w' => r = .returned (.tuple #[.slice none 0 0, .slice none 0 0, .int .i64 8]) ∧ Below w.heap.size w w' := by
  go_enter Tryz.func16, Tryz.ntmps16
  go_wp2_with fail
  refine bodyPost_ret (results_tmp3 rfl _ _ _) rfl ?_
  exact ⟨rfl, (Below.refl _ _).alloc (Nat.le_refl _) _⟩
structure RS (w0 w : World) (base db sb : Nat) (E : Dk) (f s o : Int) (V : Value) (xs : List Ce) (U : Value) (ps : List Int) : Prop where
  pd : PD w base db sb E
  fp : FP base db sb w0 w
  dlt : db < w0.heap.size ∧ sb < w0.heap.size ∧ base ≤ w0.heap.size
  part : w.heap[w0.heap.size]? = some (.cells #[.int .i64 f, .int .i64 s, .int .i64 o] 35 (0, 0))
  row : Kd.R PChain.k70 70 w w0.heap.size (fun _ => True) V xs
  pls : Kd.R (Kd.int .i64) 3 w w0.heap.size (fun _ => True) U ps
theorem RS.step {w0 w w' : World} {base db sb : Nat} {E : Dk} {f s o : Int} {V U : Value} {xs : List Ce} {ps : List Int} (h : RS w0 w base db sb E f s o V xs U ps) (k : Below w.heap.size w w') : RS w0 w' base db sb E f s o V xs U ps :=
  ⟨h.pd.below k, h.fp.trans (.of_below k), h.dlt, (k.block _ (blk_lt h.part)).trans h.part, Kd.R_below h.row k, Kd.R_below h.pls k⟩
theorem RS.disk {w0 w w' : World} {base db sb : Nat} {E E' : Dk} {f s o : Int} {V U : Value} {xs : List Ce} {ps : List Int} (h : RS w0 w base db sb E f s o V xs U ps) (p : PD w' base db sb E') (k : FP base db sb w w') : RS w0 w' base db sb E' f s o V xs U ps :=
  ⟨p, h.fp.trans k, h.dlt, keep_fp h.pd k h.part (by decide), R_fr h.row k (fun i _ hi => by have := h.dlt; omega) (fun q hq i hi => by
    have hq : q ∈ ([70, 5] : List Nat) := hq
    rw [hi.2] at hq
    revert hq
    decide), R_fr h.pls k (fun i _ hi => by have := h.dlt; omega) (fun q hq i hi => by
    have hq : q ∈ ([3] : List Nat) := hq
    rw [hi.2] at hq
    revert hq
    decide)⟩
def ceAt (o : Int) (at_ : Nat → Int) (pc : Nat → List Int) (j : Nat) : Ce := ⟨o, (j : Int), at_ (j + 1), pc j⟩
def ceN (o : Int) (at_ : Nat → Int) (pc : Nat → List Int) (k : Nat) : List Ce := (List.range k).map (ceAt o at_ pc)
def atN (at_ : Nat → Int) (k : Nat) : List Int := (List.range k).map at_
theorem ceN_succ (o : Int) (at_ : Nat → Int) (pc : Nat → List Int) (k : Nat) : ceN o at_ pc (k + 1) = ceN o at_ pc k ++ [ceAt o at_ pc k] := by simp [ceN, List.range_succ]
theorem atN_succ (at_ : Nat → Int) (k : Nat) : atN at_ (k + 1) = atN at_ k ++ [at_ k] := by simp [atN, List.range_succ]
theorem ceN_len (o : Int) (at_ : Nat → Int) (pc : Nat → List Int) (k : Nat) : (ceN o at_ pc k).length = k := by simp [ceN]
theorem atN_len (at_ : Nat → Int) (k : Nat) : (atN at_ k).length = k := by simp [atN]
theorem linkOk_get (o : Int) (j : Nat) (x : Int) (d : List Int) : linkOk o j (⟨o, (j : Int), x, d⟩, 0) = true := by unfold linkOk; simp
set_option maxHeartbeats 32000000 in
set_option maxRecDepth 100000 in
theorem cread_arg {w : World} {base db sb : Nat} {D : Dk} (h : PD w base db sb D) (f s o : Int) (hno : partOk f s o D.safe.length = false) :
    Calls Tryz.prog 16 #[.pointer (some ⟨db, 0, none⟩), .agg #[.int .i64 f, .int .i64 s, .int .i64 o]] w fun r w' => r = .returned (.tuple #[.slice none 0 0, .slice none 0 0, .int .i64 1]) ∧ PD w' base db sb D ∧ FP base db sb w w' := by
  obtain ⟨w1, hw1⟩ : ∃ w1, w1 = w.alloc (.cells #[.int .i64 f, .int .i64 s, .int .i64 o] 35) := ⟨_, rfl⟩
  have b1 : Below w.heap.size w w1 := by rw [hw1]; exact (Below.refl _ _).alloc (Nat.le_refl _) _
  have HRS := Aside0.mk (show RS w w1 base db sb D f s o (.slice none 0 0) [] (.slice none 0 0) [] from ⟨h.below b1, .of_below b1, pd_lt h, by rw [hw1]; exact heap_alloc_new w _, Kd.R_nil _ _ _ _ _, Kd.R_nil _ _ _ _ _⟩)
  have HW1 := Aside0.mk hw1
  have HNO := Aside0.mk hno
  clear hw1 b1 h hno
  obtain ⟨n, hn⟩ : ∃ n : Int, n = (D.safe.length : Int) := ⟨_, rfl⟩
  have HN := Aside0.mk hn
  rw [← hn] at HNO
  clear hn
  go_enter Tryz.func16, Tryz.ntmps16
  go_wp2_with fail
  rw [show w.alloc (.cells #[.int .i64 f, .int .i64 s, .int .i64 o] 35) = w1 from HW1.out.symm]
  refine Go.Reg.region (Below w1.heap.size w1) [.s, .s, .w, .w, .p, .p] (by kernel_rfl) (by kernel_rfl) (below_drew1 (Below.refl _ _)) (fun ne => ?_)
  have m0 : ∀ m : Go.Reg.In (Below w1.heap.size w1), m.w.cell? ⟨w.heap.size, 0, none⟩ = some (.int .i64 f) := fun m => cell_blk ((m.h.block _ (blk_lt HRS.out.part)).trans HRS.out.part)
  have m1 : ∀ m : Go.Reg.In (Below w1.heap.size w1), m.w.cell? ⟨w.heap.size, 1, none⟩ = some (.int .i64 s) := fun m => cell_blk ((m.h.block _ (blk_lt HRS.out.part)).trans HRS.out.part)
  have m2 : ∀ m : Go.Reg.In (Below w1.heap.size w1), m.w.cell? ⟨w.heap.size, 2, none⟩ = some (.int .i64 o) := fun m => cell_blk ((m.h.block _ (blk_lt HRS.out.part)).trans HRS.out.part)
  refine Go.Reg.lex_q 2 _ _ _ _ (by rfl) ?_; simp only [List.take_succ_cons, List.take_zero, List.drop_succ_cons, List.drop_zero]; (repeat (go_big_quiet_step (rfl))); refine wpQuiet_nil ?_
  clear m0 m1 m2
  obtain ⟨w3, hw3⟩ : ∃ w3, w3 = w1.drew := ⟨_, rfl⟩
  have HB3 := Aside0.mk (show Below w1.heap.size w1 w3 by rw [hw3]; exact below_drew1 (Below.refl _ _))
  have HRS3 := Aside0.mk (HRS.out.step HB3.out)
  rw [← hw3]
  clear hw3 HRS
  refine Go.Reg.step_w (fun KK hKK => ?_)
  have hbk := Disk.blocks_any HRS3.out.pd
  rw [← HN.out] at hbk
  have HBK := Aside0.mk hbk
  clear hbk
  go_wp2_with fail
  refine HBK.out.mono ?_
  clear HBK
  rintro y w5 ⟨rfl, hw5⟩
  obtain rfl : w5 = w3 := hw5
  go_wp2_with fail
  refine hKK.out _ _ HB3.out ?_
  clear hKK KK
  refine Go.Reg.step_w (fun KK hKK => ?_)
  have hpa := part_any (w := w5) f s o n
  have HPA := Aside0.mk hpa
  clear hpa
  go_wp2_with fail
  refine HPA.out.mono ?_
  clear HPA
  rintro y w4 ⟨rfl, b4⟩
  have HRS4 := Aside0.mk (HRS3.out.step b4)
  have HB4 := Aside0.mk (HB3.out.trans (b4.mono HB3.out.size))
  clear b4 HRS3 HB3
  go_wp2_with fail
  refine hKK.out _ _ HB4.out ?_
  clear hKK KK
  refine Go.Reg.lex_qp 2 _ _ _ _ _ (by rfl) ?_; simp only [List.take_succ_cons, List.take_zero, List.drop_succ_cons, List.drop_zero]; (repeat (go_big_quiet_step (rfl))); refine wpQuiet_nil ?_
  refine Go.Reg.lex_nil ?_
  clear ne
  rw [HNO.out]
  go_wp2_with fail
  refine bodyPost_ret (results_tmp3 rfl _ _ _) rfl ?_
  exact ⟨rfl, HRS4.out.pd, HRS4.out.fp⟩
theorem R_grownT {α : Type} {d : Kd α} {e base T : Nat} {ok : Nat → Prop} {v : Value} {xs : List α} {w w' : World} {row : Option Nat} (h : d.R e w base ok v xs) (hg : w.grownBy w' row) (hrow : ∀ k, row = some k → ∃ cs, w.heap[k]? = some (.cells cs T (0, 0))) (hT : ∀ q, q ∈ e :: d.E → q ≠ T) : d.R e w' base ok v xs :=
  Kd.R_mono (Kd.R_step (Kd.R_bound h) (fun k hk hlt => hg.block k hlt (fun e => by
    obtain ⟨_, _, _, q, hq, cells, hc⟩ := hk
    obtain ⟨cs, hcs⟩ := hrow k e.symm
    rw [hc] at hcs
    cases hcs
    exact hT _ hq rfl))) (fun _ hk => hk.1)
theorem PD_grown {w w' : World} {base db sb T : Nat} {D : Dk} {row : Option Nat} (h : PD w base db sb D) (hg : w.grownBy w' row) (hrow : ∀ k, row = some k → ∃ cs, w.heap[k]? = some (.cells cs T (0, 0))) (hT : T ∉ tagsP) : PD w' base db sb D := by
  obtain ⟨vw, cs, sp, h⟩ := h
  simp only [List.mem_cons, List.not_mem_nil, or_false, not_or] at hT
  have g1 : some db ≠ row := fun e => by
    obtain ⟨cs, hcs⟩ := hrow _ e.symm
    exact tag_ne hcs h.cells hT.1 rfl
  have g2 : ∀ q, q ∈ 103 :: kW.E → q ≠ T := fun q hm e => by
    have hm : q ∈ ([103, 5] : List Nat) := hm
    simp only [List.mem_cons, List.not_mem_nil, or_false] at hm
    rcases hm with e' | e'
    · exact hT.2.2 (e.symm.trans e')
    · exact hT.2.1 (e.symm.trans e')
  have g3 : some sb ≠ row := fun e => by
    obtain ⟨cs, hcs⟩ := hrow _ e.symm
    exact tag_ne hcs h.safe hT.2.1 rfl
  exact ⟨vw, cs, sp, ⟨h.ok, h.dbase, h.sbase, h.wown, (hg.block _ (blk_lt h.cells) g1).trans h.cells, R_grownT h.waits hg hrow g2, (hg.block _ (blk_lt h.safe) g3).trans h.safe, h.room⟩⟩
theorem RS.cells_ {w0 w w' : World} {base db sb : Nat} {E : Dk} {f s o : Int} {V V' U : Value} {xs xs' : List Ce} {ps : List Int} (h : RS w0 w base db sb E f s o V xs U ps) (hr : Kd.R PChain.k70 70 w' w0.heap.size (fun _ => True) V' xs') (hb : Below w0.heap.size w w') (hg : w.grownBy w' V.ownBlock) : RS w0 w' base db sb E f s o V' xs' U ps := by
  have ht : ∀ k, V.ownBlock = some k → ∃ cs, w.heap[k]? = some (.cells cs 70 (0, 0)) := fun k hk => own_typed (Kd.R_own h.row).choose_spec k hk
  exact ⟨PD_grown h.pd hg ht (by decide), Fr_then h.fp hb, h.dlt, (hg.block _ (blk_lt h.part) (fun e => by
    obtain ⟨cs, hcs⟩ := ht _ e.symm
    exact tag_ne hcs h.part (by decide) rfl)).trans h.part, hr, R_grownT h.pls hg ht (fun q hm e => by
      have hm : q ∈ ([3] : List Nat) := hm
      rw [e] at hm
      revert hm
      decide)⟩
theorem RS.ints_ {w0 w w' : World} {base db sb : Nat} {E : Dk} {f s o : Int} {V U U' : Value} {xs : List Ce} {ps ps' : List Int} (h : RS w0 w base db sb E f s o V xs U ps) (hr : Kd.R (Kd.int .i64) 3 w' w0.heap.size (fun _ => True) U' ps') (hb : Below w0.heap.size w w') (hg : w.grownBy w' U.ownBlock) : RS w0 w' base db sb E f s o V xs U' ps' := by
  have ht : ∀ k, U.ownBlock = some k → ∃ cs, w.heap[k]? = some (.cells cs 3 (0, 0)) := fun k hk => own_typed (Kd.R_own h.pls).choose_spec k hk
  exact ⟨PD_grown h.pd hg ht (by decide), Fr_then h.fp hb, h.dlt, (hg.block _ (blk_lt h.part) (fun e => by
    obtain ⟨cs, hcs⟩ := ht _ e.symm
    exact tag_ne hcs h.part (by decide) rfl)).trans h.part, R_grownT h.row hg ht (fun q hm e => by
      have hm : q ∈ ([70, 5] : List Nat) := hm
      rw [e] at hm
      revert hm
      decide), hr⟩
theorem cell_grown {w w' : World} {b T T' : Nat} {cs : Array Value} {row : Option Nat} (hu : w.heap[b]? = some (.cells cs T' (0, 0))) (hg : w.grownBy w' row) (hrow : ∀ k, row = some k → ∃ cs, w.heap[k]? = some (.cells cs T (0, 0))) (hne : T ≠ T') : w'.heap[b]? = some (.cells cs T' (0, 0)) :=
  (hg.block _ (blk_lt hu) (fun e => by
    obtain ⟨ds, hds⟩ := hrow _ e.symm
    exact tag_ne hds hu hne rfl)).trans hu
theorem infoInt : (Tryz.prog.info? 3).map (fun i => (i.zero, i.size, i.bytes)) = some (some (.int .i64 0), 1, 8) := by kernel_rfl
theorem infoCell : (Tryz.prog.info? 70).map (fun i => (i.zero, i.size, i.bytes)) = some (some (.agg #[.int .i64 0, .int .i64 0, .int .i64 0, .slice none 0 0]), 4, 48) := by kernel_rfl
def ReadEnd (m N : Nat) (t ps : List Int) (n0 : Nat) (w' : World) (e : Ending) : Prop :=
  (m < N → e = .returned (.tuple #[.slice none 0 0, .slice none 0 0, .int .i64 13])) ∧
  (m = N → ∃ A c B c', e = .returned (.tuple #[.slice A t.length c, .slice B ps.length c', .int .i64 0]) ∧ Kd.R (Kd.int .u8) 5 w' n0 (fun _ => True) (.slice A t.length c) t ∧ Kd.R (Kd.int .i64) 3 w' n0 (fun _ => True) (.slice B ps.length c') ps)
theorem ReadEnd.bad {m N n0 : Nat} {t ps : List Int} {w' : World} {e : Ending} (h : m < N) (he : e = .returned (.tuple #[.slice none 0 0, .slice none 0 0, .int .i64 13])) : ReadEnd m N t ps n0 w' e := ⟨fun _ => he, fun k => absurd k (by omega)⟩
set_option maxHeartbeats 32000000 in
set_option maxRecDepth 100000 in
theorem cread_any {w : World} {base db sb : Nat} {D : Dk} (h : PD w base db sb D) (o : Int) (at_ : Nat → Int) (pc : Nat → List Int) (sz N m : Nat) (hN : N = Cell.needP sz) (hm : m ≤ N) (hok : partOk (at_ 0) sz o D.safe.length = true)
    (hlow : ∀ j, j ≤ m → j < N → 2 ≤ at_ j ∧ ready D (at_ j) = 0) (hget : ∀ j, j < m → Cell.getP (nowD D (at_ j)) = (⟨o, (j : Int), at_ (j + 1), pc j⟩, 0)) (hbad : m < N → linkOk o m (Cell.getP (nowD D (at_ m))) = false)
    (t : List Int) (hj : m = N → ∃ k, PCellCuts.cell_Join.f k (ceN o at_ pc N) = some (t, true) ∧ t.length = sz) (hfew : D.waits.length ≤ 1000000000) :
    Calls Tryz.prog 16 #[.pointer (some ⟨db, 0, none⟩), .agg #[.int .i64 (at_ 0), .int .i64 sz, .int .i64 o]] w fun r w' => ReadEnd m N t (atN at_ N) w.heap.size w' r ∧ (∃ q, PD w' base db sb (rdN D q)) ∧ FP base db sb w w' := by
  obtain ⟨f, hf⟩ : ∃ f, f = at_ 0 := ⟨_, rfl⟩
  obtain ⟨s, hs⟩ : ∃ s : Int, s = (sz : Int) := ⟨_, rfl⟩
  rw [← hf, ← hs] at hok ⊢
  have HF0 := Aside0.mk hf
  have HSZ := Aside0.mk hs
  obtain ⟨w1, hw1⟩ : ∃ w1, w1 = w.alloc (.cells #[.int .i64 f, .int .i64 s, .int .i64 o] 35) := ⟨_, rfl⟩
  have b1 : Below w.heap.size w w1 := by rw [hw1]; exact (Below.refl _ _).alloc (Nat.le_refl _) _
  have HRS := Aside0.mk (show RS w w1 base db sb D f s o (.slice none 0 0) [] (.slice none 0 0) [] from ⟨h.below b1, .of_below b1, pd_lt h, by rw [hw1]; exact heap_alloc_new w _, Kd.R_nil _ _ _ _ _, Kd.R_nil _ _ _ _ _⟩)
  have HW1 := Aside0.mk hw1
  have HOK := Aside0.mk hok
  have HNE := Aside0.mk hN
  have HM := Aside0.mk hm
  have HLOW := Aside0.mk hlow
  have HGET := Aside0.mk hget
  have HBAD := Aside0.mk hbad
  have HJ := Aside0.mk hj
  have HFEW := Aside0.mk hfew
  have HNB := Aside0.mk (show sz ≤ 262144 ∧ N ≤ 2000 by
    have q := of_decide_eq_true hok
    rw [hs] at q
    have : N = (sz + 241) / 242 := hN
    omega)
  clear hw1 b1 h hok hf hs hN hm hlow hget hbad hj hfew
  obtain ⟨n, hn⟩ : ∃ n : Int, n = (D.safe.length : Int) := ⟨_, rfl⟩
  have HN := Aside0.mk hn
  rw [← hn] at HOK
  clear hn
  go_enter Tryz.func16, Tryz.ntmps16
  go_wp2_with fail
  rw [show w.alloc (.cells #[.int .i64 f, .int .i64 s, .int .i64 o] 35) = w1 from HW1.out.symm]
  refine Go.Reg.region (Below w1.heap.size w1) [.s, .s, .w, .w, .p, .p] (by kernel_rfl) (by kernel_rfl) (below_drew1 (Below.refl _ _)) (fun ne => ?_)
  have m0 : ∀ m : Go.Reg.In (Below w1.heap.size w1), m.w.cell? ⟨w.heap.size, 0, none⟩ = some (.int .i64 f) := fun m => cell_blk ((m.h.block _ (blk_lt HRS.out.part)).trans HRS.out.part)
  have m1 : ∀ m : Go.Reg.In (Below w1.heap.size w1), m.w.cell? ⟨w.heap.size, 1, none⟩ = some (.int .i64 s) := fun m => cell_blk ((m.h.block _ (blk_lt HRS.out.part)).trans HRS.out.part)
  have m2 : ∀ m : Go.Reg.In (Below w1.heap.size w1), m.w.cell? ⟨w.heap.size, 2, none⟩ = some (.int .i64 o) := fun m => cell_blk ((m.h.block _ (blk_lt HRS.out.part)).trans HRS.out.part)
  refine Go.Reg.lex_q 2 _ _ _ _ (by rfl) ?_; simp only [List.take_succ_cons, List.take_zero, List.drop_succ_cons, List.drop_zero]; (repeat (go_big_quiet_step (rfl))); refine wpQuiet_nil ?_
  clear m0 m1 m2
  obtain ⟨w3, hw3⟩ : ∃ w3, w3 = w1.drew := ⟨_, rfl⟩
  have HB3 := Aside0.mk (show Below w1.heap.size w1 w3 by rw [hw3]; exact below_drew1 (Below.refl _ _))
  have HRS3 := Aside0.mk (HRS.out.step HB3.out)
  rw [← hw3]
  clear hw3 HRS
  refine Go.Reg.step_w (fun KK hKK => ?_)
  have hbk := Disk.blocks_any HRS3.out.pd
  rw [← HN.out] at hbk
  have HBK := Aside0.mk hbk
  clear hbk
  go_wp2_with fail
  refine HBK.out.mono ?_
  clear HBK
  rintro y w5 ⟨rfl, hw5⟩
  obtain rfl : w5 = w3 := hw5
  go_wp2_with fail
  refine hKK.out _ _ HB3.out ?_
  clear hKK KK
  refine Go.Reg.step_w (fun KK hKK => ?_)
  have hpa := part_any (w := w5) f s o n
  have HPA := Aside0.mk hpa
  clear hpa
  go_wp2_with fail
  refine HPA.out.mono ?_
  clear HPA
  rintro y w4 ⟨rfl, b4⟩
  have HRS4 := Aside0.mk (HRS3.out.step b4)
  have HB4 := Aside0.mk (HB3.out.trans (b4.mono HB3.out.size))
  clear b4 HRS3 HB3
  go_wp2_with fail
  refine hKK.out _ _ HB4.out ?_
  clear hKK KK
  refine Go.Reg.lex_qp 2 _ _ _ _ _ (by rfl) ?_; simp only [List.take_succ_cons, List.take_zero, List.drop_succ_cons, List.drop_zero]; (repeat (go_big_quiet_step (rfl))); refine wpQuiet_nil ?_
  refine Go.Reg.lex_nil ?_
  clear ne
  rw [HOK.out]
  have q0 : w4.cell? ⟨w.heap.size, 0, none⟩ = some (.int .i64 f) := cell_blk HRS4.out.part
  have q1 : w4.cell? ⟨w.heap.size, 1, none⟩ = some (.int .i64 s) := cell_blk HRS4.out.part
  have hnd := Cell.need_any (w := w4) sz (by have := HNB.out; omega)
  rw [← HNE.out, ← HSZ.out] at hnd
  have HND := Aside0.mk hnd
  clear hnd
  go_wp2_with fail
  refine HND.out.mono ?_
  clear HND q0 q1
  rintro y w6 ⟨rfl, b6⟩
  have HRS6 := Aside0.mk (HRS4.out.step b6)
  clear b6 HRS4 HB4
  go_wp2_with fail
  go_loopg [29, 7, 8, 9] N (fun gk v29 v7 v8 v9 wr => ∃ (i : Nat), Aside0 (i + gk = N) ∧ Aside0 (i ≤ m) ∧ v29 = .int .i64 i ∧ v9 = .int .i64 (at_ i) ∧ Aside0 (RS w wr base db sb (rdN D i) f s o v7 (ceN o at_ pc i) v8 (atN at_ i)))
  case atStart => exact ⟨0, ⟨by omega⟩, ⟨by omega⟩, rfl, by rw [HF0.out], HRS6⟩
  case round =>
    clear HRS6
    obtain ⟨i, HI, HIM, rfl, rfl, HR⟩ := hrel
    obtain ⟨A7, c7, rfl⟩ := Kd.R_slice HR.out.row
    obtain ⟨A8, c8, rfl⟩ := Kd.R_slice HR.out.pls
    rw [ceN_len, atN_len] at HR
    try rw [ceN_len]
    try rw [atN_len]
    by_cases hi : i < N
    · have hii : (i : Int) < (N : Int) := by omega
      have hlo := HLOW.out i HIM.out hi
      obtain ⟨g, hg⟩ : ∃ g, g = Cell.getP (nowD D (at_ i)) := ⟨_, rfl⟩
      have hlk := link_any HR.out.pd f s o (at_ i) (i : Int) hlo.1 (by rw [ready_rdN]; exact hlo.2) (by rw [(rdN_same D i).2.1]; exact HFEW.out) g (by rw [now_rdN]; exact hg)
      have HLK := Aside0.mk hlk
      have HGG := Aside0.mk hg
      clear hlo hlk hg
      have q0 : wr.cell? ⟨w.heap.size, 0, none⟩ = some (.int .i64 f) := cell_blk HR.out.part
      have q1 : wr.cell? ⟨w.heap.size, 1, none⟩ = some (.int .i64 s) := cell_blk HR.out.part
      have q2 : wr.cell? ⟨w.heap.size, 2, none⟩ = some (.int .i64 o) := cell_blk HR.out.part
      go_wp2_with fail
      refine HLK.out.mono ?_
      clear HLK q0 q1 q2
      rintro y w7 ⟨he7, hp7, hf7⟩
      have HR7 := Aside0.mk (HR.out.disk hp7 hf7)
      have HS7 := Aside0.mk (show wr.heap.size ≤ w7.heap.size from hf7.size)
      have HV7 := Aside0.mk (Kd.R_lt HR.out.row)
      have HSW := Aside0.mk (show w.heap.size ≤ wr.heap.size from HR.out.fp.size)
      clear hp7 hf7 HR
      by_cases him : i < m
      · have hgg := HGET.out i him
        rw [← HGG.out] at hgg
        subst hgg
        unfold LinkEnd at he7
        rw [if_pos (linkOk_get o i (at_ (i + 1)) (pc i))] at he7
        obtain ⟨v7, rfl, hr7⟩ := he7
        obtain ⟨A9, c9, rfl⟩ := Kd.R_slice hr7
        have HD7 := Aside0.mk (show Kd.R (Kd.int .u8) 5 w7 w.heap.size (fun k => wr.heap.size ≤ k) (.slice A9 (pc i).length c9) (pc i) from Kd.R_mono (Kd.R_lower (Kd.R_bound hr7) HSW.out) (fun k hk => hk.2.1))
        clear hr7 HGG HGET HBAD
        obtain ⟨nx, hnx⟩ : ∃ nx, nx = at_ (i + 1) := ⟨_, rfl⟩
        have HNX := Aside0.mk hnx
        obtain ⟨d, hd⟩ : ∃ d, d = pc i := ⟨_, rfl⟩
        have HDD := Aside0.mk hd
        rw [← hd] at HD7
        rw [← hnx, ← hd]
        clear hnx hd
        go_upto_region 12 with (fail)
        obtain ⟨w8, hw8⟩ : ∃ w8, w8 = w7.alloc (.cells #[.int .i64 o, .int .i64 i, .int .i64 nx, .slice A9 d.length c9] 70) := ⟨_, rfl⟩
        have b8 : Below w7.heap.size w7 w8 := by rw [hw8]; exact (Below.refl _ _).alloc (Nat.le_refl _) _
        have hbx : w8.heap[w7.heap.size]? = some (.cells #[.int .i64 o, .int .i64 i, .int .i64 nx, .slice A9 d.length c9] 70 (0, 0)) := by rw [hw8]; exact heap_alloc_new w7 _
        have HR8 := Aside0.mk (HR7.out.step b8)
        have HD8 := Aside0.mk (Kd.R_below HD7.out b8)
        have HS8 := Aside0.mk (b8.size)
        rw [← hw8]
        obtain ⟨cb, hcb⟩ : ∃ cb, cb = w7.heap.size := ⟨_, rfl⟩
        have HCB := Aside0.mk hcb
        rw [← hcb] at hbx ⊢
        clear hw8 b8 hcb HR7 HD7
        obtain ⟨⟨k0, k1, k2, k3⟩, _⟩ := cells4 hbx
        have HBX := Aside0.mk hbx
        clear hbx
        go_wp2_with fail
        refine (is_nil w8).mono ?_
        rintro y w9 ⟨rfl, hw9⟩
        obtain rfl : w9 = w8 := hw9
        go_upto_region 16 with (fail)
        go_wp2_with ((with_reducible refine gate_builtin (b := .append) (xs := #[.tmp 48, .tmp 50]) rfl ?_); at_builtin; refine Hid.out ?_)
        refine Lib.hid ?_
        refine Kd.R_append PChain.k70 (w0 := w9) (W := w9) w.heap.size rfl (.tmp 48) (.tmp 50) 64 70 (.agg #[.int .i64 0, .int .i64 0, .int .i64 0, .slice none 0 0]) 48 rfl Tryz.underlying64 infoCell rfl (by decide) (by omega) (.slice A7 i c7) (ceN o at_ pc i) ⟨o, (i : Int), nx, d⟩ [.int .i64 o, .int .i64 i, .int .i64 nx, .slice A9 d.length c9] (fun _ => True) (fun k => wr.heap.size ≤ k) rfl rfl ?aP ?aK ?aF ?aO ?aR ?aB ?aL ?_
        case aP => exact PChain.k70_mkM w9 w.heap.size (fun k => wr.heap.size ≤ k) ⟨o, (i : Int), nx, d⟩ HD8.out
        case aK => exact fun k hk => ⟨trivial, fun e => by have := HV7.out k e.symm; omega⟩
        case aF => exact fun _ _ => trivial
        case aO => exact HR8.out.row
        case aR => exact ⟨rfl, rfl, rfl, Nat.le_refl _, fun _ _ => rfl⟩
        case aB => have := HR8.out.fp.size; exact this
        case aL => rw [ceN_len]; have := HNB.out; omega
        intro V1 wa hoa hba hga _
        have HRA := Aside0.mk (HR8.out.cells_ hoa hba hga)
        have HBA := Aside0.mk ((hga.block cb (blk_lt HBX.out) (fun e => by have := HV7.out cb e.symm; have := HCB.out; have := HS7.out; omega)).trans HBX.out)
        have HV8 := Aside0.mk (show ∀ k, (Value.slice A8 i c8).ownBlock = some k → k < wa.heap.size from Kd.R_lt HRA.out.pls)
        clear hoa hba hga HBX HR8 k0 k1 k2 k3 HD8
        obtain ⟨A1, c1, rfl⟩ := Kd.R_slice HRA.out.row
        have hl1 : (ceN o at_ pc i ++ [(⟨o, (i : Int), nx, d⟩ : Ce)]).length = i + 1 := by rw [List.length_append, ceN_len]; rfl
        rw [hl1] at HRA ⊢
        clear hl1
        go_wp2_with ((with_reducible refine gate_builtin (b := .append) (xs := #[.tmp 52, .tmp 54]) rfl ?_); at_builtin; refine Hid.out ?_)
        refine Lib.hid ?_
        refine Kd.R_append (Kd.int .i64) (w0 := wa) (W := wa) w.heap.size rfl (.tmp 52) (.tmp 54) 38 3 (.int .i64 0) 8 rfl Tryz.underlying38 infoInt rfl (by decide) (by omega) (.slice A8 i c8) (atN at_ i) (at_ i) [.int .i64 (at_ i)] (fun _ => True) (fun _ => False) rfl rfl ?bP ?bK ?bF ?bO ?bR ?bB ?bL ?_
        case bP => exact rfl
        case bK => exact fun k hk => hk.elim
        case bF => exact fun _ _ => trivial
        case bO => exact HRA.out.pls
        case bR => exact ⟨rfl, rfl, rfl, Nat.le_refl _, fun _ _ => rfl⟩
        case bB => have := HRA.out.fp.size; exact this
        case bL => rw [atN_len]; have := HNB.out; omega
        intro V2 wb hob hbb hgb _
        have HRB := Aside0.mk (HRA.out.ints_ hob hbb hgb)
        have hbc := cell_grown (T := 3) HBA.out hgb (fun k hk => own_typed (Kd.R_own HRA.out.pls).choose_spec k hk) (by decide)
        obtain ⟨⟨k0, k1, k2, k3⟩, _⟩ := cells4 hbc
        obtain ⟨A2, c2, rfl⟩ := Kd.R_slice HRB.out.pls
        have hl2 : (atN at_ i ++ [at_ i]).length = i + 1 := by rw [List.length_append, atN_len]; rfl
        rw [hl2] at HRB ⊢
        clear hl2
        clear hob hbb hgb hbc HBA HRA HV8
        go_wp2_with fail
        go_roundg (N - (i + 1))
        case measure => have := HI.out; omega
        case rel => exact ⟨i + 1, ⟨by have := HI.out; omega⟩, ⟨him⟩, congrArg (Value.int .i64) (up1 i (by have := HNB.out; omega)), by rw [HNX.out], ⟨by rw [ceN_succ, atN_succ]; have q := HRB.out; rw [HNX.out, HDD.out] at q; exact q⟩⟩
      · have himm : i = m := by have := HIM.out; omega
        subst himm
        have hbd := HBAD.out hi
        rw [← HGG.out] at hbd
        unfold LinkEnd at he7
        rw [if_neg (by rw [hbd]; simp)] at he7
        subst he7
        clear HGG HGET HBAD
        go_upto_region 12 with (fail)
        obtain ⟨w8, hw8⟩ : ∃ w8, w8 = w7.alloc (.cells zcell 70) := ⟨_, rfl⟩
        have b8 : Below w7.heap.size w7 w8 := by rw [hw8]; exact (Below.refl _ _).alloc (Nat.le_refl _) _
        have HR8 := Aside0.mk (HR7.out.step b8)
        rw [← hw8]
        clear hw8 b8 HR7
        go_wp2_with fail
        refine (is_broken w8).mono ?_
        rintro y w9 ⟨rfl, hw9⟩
        obtain rfl : w9 = w8 := hw9
        go_wp2_with fail
        refine bodyPost_ret (results_tmp3 rfl _ _ _) rfl ?_
        exact ⟨ReadEnd.bad hi rfl, ⟨i + 1, HR8.out.pd⟩, HR8.out.fp⟩
    · have hii : ¬ ((i : Int) < (N : Int)) := by omega
      have hiN : i = N := by have := HI.out; omega
      have hmN : m = N := by have := HIM.out; have := HM.out; omega
      subst hiN
      obtain ⟨k, hk, hts⟩ := HJ.out hmN
      obtain ⟨hl7, hc7, hC7⟩ := Kd.R_reads' HR.out.row
      have hjo := PCellCuts.cell_Join.calls k A7 c7 (ceN o at_ pc i) t true wr hC7 (by rw [ceN_len]; exact hc7) hk
      rw [ceN_len] at hjo
      have HJO := Aside0.mk hjo
      have hts' : (t.length : Int) = s := by rw [HSZ.out, hts]
      have q1 : wr.cell? ⟨w.heap.size, 1, none⟩ = some (.int .i64 s) := cell_blk HR.out.part
      clear hjo hk hl7 hc7 hC7
      go_wp2_with fail
      refine HJO.out.mono ?_
      clear HJO q1
      rintro y w7 ⟨v7, rfl, hr7, b7⟩
      have HR7 := Aside0.mk (HR.out.step b7)
      have HT7 := Aside0.mk hr7
      obtain ⟨A9, c9, rfl⟩ := Kd.R_slice hr7
      have HSW := Aside0.mk (show w.heap.size ≤ wr.heap.size from HR.out.fp.size)
      clear hr7 b7 HR
      have q1 : w7.cell? ⟨w.heap.size, 1, none⟩ = some (.int .i64 s) := cell_blk HR7.out.part
      have hts2 : ((t.length : Int) != s) = false := by simp [hts']
      go_wp2_with fail
      refine bodyPost_ret (results_tmp3 rfl _ _ _) rfl ?_
      refine ⟨⟨fun hlt => absurd hlt (by omega), fun _ => ⟨A9, c9, A8, c8, by rw [atN_len, hts]; rfl, Kd.R_lower HT7.out HSW.out, by rw [atN_len]; exact HR7.out.pls⟩⟩, ⟨i, HR7.out.pd⟩, HR7.out.fp⟩
end Ch
end Go.Proofs.YtclneeamemofoaaGreat
end
section
namespace Go.Proofs.YtclneeamemofoaaGreat
set_option linter.unusedVariables false
set_option linter.unusedSimpArgs false
open Go.RowKit Go.Proofs.YtclneeamemofoaaGreatW.PrintWords Go.Proofs.YtclneeamemofoaaGreatW.PrintLast Go.Proofs.YtclneeamemofoaaGreatW.PrintMore
namespace Ch
open Go.Disk Go.Proofs.YtclneeamemofoaaGreat.Disk
theorem lastW_cons (p : Int × List Int) (ws : List (Int × List Int)) (n : Int) : Disk.lastW (p :: ws) n = (match Disk.lastW ws n with | some b => some b | none => if p.1 = n then some p.2 else none) := rfl
theorem lastW_snoc (n : Int) (b : List Int) (m : Int) : ∀ ws : List (Int × List Int), Disk.lastW (ws ++ [(n, b)]) m = if n = m then some b else Disk.lastW ws m
  | [] => rfl
  | p :: ws => by
    have ih := lastW_snoc n b m ws
    rw [List.cons_append, lastW_cons, lastW_cons, ih]
    by_cases h : n = m
    · rw [if_pos h, if_pos h]
    · rw [if_neg h, if_neg h]
structure Free (D : Dk) : Prop where
  off : D.off = false
  left : D.left = -1
theorem write_free {D : Dk} (h : Free D) (n : Int) (b : List Int) (h0 : 0 ≤ n) (h1 : n < D.safe.length) (hb : b.length = 256) :
    (writeD D n b).2 = 0 ∧ Free (writeD D n b).1 ∧ (writeD D n b).1.safe = D.safe ∧ (writeD D n b).1.waits = D.waits ++ [(n, b)] := by
  have hr := ready_ok h.off n h0 h1
  have hl : ¬ D.left = 0 := by rw [h.left]; decide
  unfold writeD
  rw [if_neg (by rw [hr]; simp), if_neg (by omega), if_neg hl]
  unfold deedD waitD
  rw [if_neg (show ¬ ({ D with waits := D.waits ++ [(n, b)] } : Dk).left = 0 from hl)]
  refine ⟨rfl, ⟨h.off, ?_⟩, rfl, rfl⟩
  show max (D.left - 1) (-1) = -1
  rw [h.left]
  rfl
theorem blk_len {o : Int} {p t : List Int} {j : Nat} (h : Cell.okAt o p t j = true) : (blkC o p t j).length = 256 ∧ Cell.getP (blkC o p t j) = (⟨o, (j : Int), Cell.nextOf p j, Cell.pieceOf t j⟩, 0) := by
  have h1 := (Cell.okAt_iff h).1
  have hd := Cell.okD h1
  unfold blkC
  refine ⟨?_, Cell.get_put _ _ _ _ h1⟩
  rw [Cell.put_body h1]
  show (Cell.sealB _).length = 256
  rw [Cell.seal_len, Cell.bodyC_len _ _ _ _ hd.2.2.2.2.2.2.2]
def outN (o : Int) (p t : List Int) (k : Nat) : List (Int × List Int) := (List.range k).map (fun j => (p.getD j 0, blkC o p t j))
theorem outN_succ (o : Int) (p t : List Int) (k : Nat) : outN o p t (k + 1) = outN o p t k ++ [(p.getD k 0, blkC o p t k)] := by simp [outN, List.range_succ]
theorem apart_at {n : Int} {p : List Int} (h : apartP n p = true) (j : Nat) (hj : j < p.length) : 2 ≤ p.getD j 0 ∧ p.getD j 0 < n := by
  have := (of_decide_eq_true h).1 (p.getD j 0) (by rw [List.getD_eq_getElem?_getD, List.getElem?_eq_getElem hj]; exact List.getElem_mem hj)
  exact this
theorem apart_ne {n : Int} {p : List Int} (h : apartP n p = true) (i j : Nat) (hi : i < p.length) (hj : j < p.length) (hne : i ≠ j) : p.getD i 0 ≠ p.getD j 0 := by
  have hn := (of_decide_eq_true h).2
  rw [List.getD_eq_getElem?_getD, List.getElem?_eq_getElem hi, List.getD_eq_getElem?_getD, List.getElem?_eq_getElem hj]
  exact fun e => hne (by
    rcases Nat.lt_trichotomy i j with g | g | g
    · exact absurd e (List.pairwise_iff_getElem.1 hn i j hi hj g)
    · exact g
    · exact absurd e.symm (List.pairwise_iff_getElem.1 hn j i hj hi g))
theorem wr_free {D : Dk} (h : Free D) (o : Int) (p t : List Int) (ha : apartP D.safe.length p = true) (hok : ∀ j, j < p.length → Cell.okAt o p t j = true) :
    ∀ k, k ≤ p.length → (wrN o p t D k).2 = 0 ∧ Free (wrN o p t D k).1 ∧ (wrN o p t D k).1.safe = D.safe ∧ (wrN o p t D k).1.waits = D.waits ++ outN o p t k
  | 0, _ => ⟨rfl, h, rfl, by simp [wrN, outN]⟩
  | k + 1, hk => by
    obtain ⟨i1, i2, i3, i4⟩ := wr_free h o p t ha hok k (by omega)
    have hat := apart_at ha k (by omega)
    have hw := write_free i2 (p.getD k 0) (blkC o p t k) (by omega) (by rw [i3]; exact hat.2) (blk_len (hok k (by omega))).1
    have e : wrN o p t D (k + 1) = writeD (wrN o p t D k).1 (p.getD k 0) (blkC o p t k) := by
      show (if (wrN o p t D k).2 ≠ 0 then wrN o p t D k else _) = _
      rw [if_neg (by rw [i1]; simp)]
    rw [e]
    exact ⟨hw.1, hw.2.1, hw.2.2.1.trans i3, by rw [hw.2.2.2, i4, outN_succ, List.append_assoc]⟩
theorem outN_last (o : Int) (p t : List Int) (n : Int) (ha : apartP n p = true) : ∀ (k : Nat), k ≤ p.length → ∀ j, j < k → ∀ ws, Disk.lastW (ws ++ outN o p t k) (p.getD j 0) = some (blkC o p t j)
  | 0, _, j, hj, _ => absurd hj (by omega)
  | k + 1, hk, j, hj, ws => by
    rw [outN_succ, ← List.append_assoc, lastW_snoc]
    by_cases e : j = k
    · subst e; rw [if_pos rfl]
    · rw [if_neg (apart_ne ha k j (by omega) (by omega) (Ne.symm e))]
      exact outN_last o p t n ha k (by omega) j (by omega) ws
structure Wrote (D : Dk) (o : Int) (p t : List Int) (E : Dk) : Prop where
  cut : (Cell.cutP o p t).2 = 0
  apart : apartP D.safe.length p = true
  free : Free E
  safe : E.safe = D.safe
  waits : E.waits = D.waits ++ outN o p t p.length
theorem chW_free {D : Dk} (h : Free D) (o : Int) (p t : List Int) :
    ((chW D o p t).2.2 ≠ 0 ∧ (chW D o p t).1 = D ∧ (chW D o p t).2.1 = (0, 0, 0)) ∨ ((chW D o p t).2.2 = 0 ∧ (chW D o p t).2.1 = (p.getD 0 0, (t.length : Int), o) ∧ Wrote D o p t (chW D o p t).1) := by
  unfold chW
  by_cases hc : (Cell.cutP o p t).2 ≠ 0
  · left
    rw [if_pos hc]
    exact ⟨hc, rfl, rfl⟩
  · have hc0 : (Cell.cutP o p t).2 = 0 := Classical.byContradiction hc
    obtain ⟨h1, h2, h3, h4⟩ := cut_ok hc0
    rw [if_neg hc]
    by_cases ha : apartP D.safe.length p = true
    · right
      obtain ⟨i1, i2, i3, i4⟩ := wr_free h o p t ha h2 p.length (Nat.le_refl _)
      rw [if_pos ha, if_neg (by rw [i1]; simp)]
      exact ⟨rfl, rfl, hc0, ha, i2, i3, i4⟩
    · left
      rw [if_neg ha]
      exact ⟨by show (1 : Int) ≠ 0; decide, rfl, rfl⟩
structure Held (D : Dk) (o : Int) (p t : List Int) : Prop where
  cut : (Cell.cutP o p t).2 = 0
  apart : apartP D.safe.length p = true
  off : D.off = false
  now : ∀ j, j < p.length → nowD D (p.getD j 0) = blkC o p t j
theorem Wrote.held {D E : Dk} {o : Int} {p t : List Int} (h : Wrote D o p t E) : Held E o p t :=
  ⟨h.cut, by rw [h.safe]; exact h.apart, h.free.off, fun j hj => by
    unfold nowD
    rw [h.waits, outN_last o p t _ h.apart p.length (Nat.le_refl _) j hj]
    rfl⟩
end Ch
end Go.Proofs.YtclneeamemofoaaGreat
end
section
namespace Go.Proofs.YtclneeamemofoaaGreat
set_option linter.unusedVariables false
set_option linter.unusedSimpArgs false
open Go.RowKit Go.Proofs.YtclneeamemofoaaGreatW.PrintWords Go.Proofs.YtclneeamemofoaaGreatW.PrintLast Go.Proofs.YtclneeamemofoaaGreatW.PrintMore
namespace Ch
open Go.Disk Go.Proofs.YtclneeamemofoaaGreat.Disk
def atP (p : List Int) : Nat → Int
  | 0 => p.getD 0 0
  | j + 1 => Cell.nextOf p j
theorem atP_at (p : List Int) (j : Nat) (hj : j < p.length) : atP p j = p.getD j 0 := by
  cases j with
  | zero => rfl
  | succ j => show Cell.nextOf p j = _; unfold Cell.nextOf; rw [if_pos hj]
theorem atN_all (p : List Int) : atN (atP p) p.length = p := by
  apply List.ext_getElem
  · rw [atN_len]
  · intro i h1 h2
    have e : (atN (atP p) p.length)[i]? = some (atP p i) := by
      unfold atN
      rw [List.getElem?_map, List.getElem?_range h2]
      rfl
    rw [List.getElem?_eq_getElem h1] at e
    rw [Option.some_inj.1 e, atP_at p i h2, List.getD_eq_getElem?_getD, List.getElem?_eq_getElem h2]
    rfl
theorem ceN_all (o : Int) (p t : List Int) (k : Nat) : ceN o (atP p) (Cell.pieceOf t) k = Cell.cellsAt o p t k := rfl
theorem held_part {D : Dk} {o : Int} {p t : List Int} (h : Held D o p t) (ht : t.length ≤ 100000) : partOk (p.getD 0 0) (t.length : Int) o D.safe.length = true := by
  obtain ⟨h1, h2, h3, h4⟩ := cut_ok h.cut
  have ha := apart_at h.apart 0 h3
  have hd := Cell.okD (Cell.okAt_iff (h2 0 h3)).1
  have hl : 1 ≤ t.length := by
    have := hd.2.2.2.2.2.2.1
    unfold Cell.pieceOf at this
    simp at this
    omega
  exact decide_eq_true ⟨by omega, by omega, ha.1, ha.2, hd.1, hd.2.1⟩
theorem read_held {w : World} {base db sb : Nat} {D : Dk} (h : PD w base db sb D) (o : Int) (p t : List Int) (hh : Held D o p t) (ht : t.length ≤ 100000) (hfew : D.waits.length ≤ 1000000000) :
    Calls Tryz.prog 16 #[.pointer (some ⟨db, 0, none⟩), .agg #[.int .i64 (p.getD 0 0), .int .i64 t.length, .int .i64 o]] w fun r w' => ∃ A c B c', r = .returned (.tuple #[.slice A t.length c, .slice B p.length c', .int .i64 0]) ∧ Kd.R (Kd.int .u8) 5 w' w.heap.size (fun _ => True) (.slice A t.length c) t ∧ Kd.R (Kd.int .i64) 3 w' w.heap.size (fun _ => True) (.slice B p.length c') p ∧ (∃ q, PD w' base db sb (rdN D q)) ∧ FP base db sb w w' := by
  obtain ⟨h1, h2, h3, h4⟩ := cut_ok hh.cut
  have hr := cread_any h o (atP p) (Cell.pieceOf t) t.length p.length p.length h4 (Nat.le_refl _) (held_part hh ht) (fun j _ hj => by
      have := apart_at hh.apart j hj
      rw [atP_at p j hj]
      exact ⟨this.1, ready_ok hh.off _ (by omega) this.2⟩) (fun j hj => by
      rw [atP_at p j hj, hh.now j hj]
      exact (blk_len (h2 j hj)).2) (fun hlt => absurd hlt (Nat.lt_irrefl _)) t (fun _ => by
      obtain ⟨k, hk⟩ := Cell.join_cut o p t ht
      refine ⟨k, ?_, rfl⟩
      rw [ceN_all, ← h1, hk, if_pos hh.cut, hh.cut]
      rfl) hfew
  refine hr.mono ?_
  rintro r w' ⟨he, hp, hf⟩
  obtain ⟨A, c, B, c', rfl, g1, g2⟩ := he.2 rfl
  rw [atN_all] at g2 ⊢
  exact ⟨A, c, B, c', rfl, g1, g2, hp, hf⟩
theorem read_bad {w : World} {base db sb : Nat} {D : Dk} (h : PD w base db sb D) (f : Int) (sz : Nat) (o : Int) (hok : partOk f sz o D.safe.length = true) (hr : ready D f = 0) (hbad : linkOk o 0 (Cell.getP (nowD D f)) = false) (hfew : D.waits.length ≤ 1000000000) :
    Calls Tryz.prog 16 #[.pointer (some ⟨db, 0, none⟩), .agg #[.int .i64 f, .int .i64 sz, .int .i64 o]] w fun r w' => r = .returned (.tuple #[.slice none 0 0, .slice none 0 0, .int .i64 13]) ∧ (∃ q, PD w' base db sb (rdN D q)) ∧ FP base db sb w w' := by
  have hq := of_decide_eq_true hok
  have hN : 0 < Cell.needP sz := by unfold Cell.needP; omega
  have hr := cread_any h o (fun _ => f) (fun _ => []) sz (Cell.needP sz) 0 rfl (Nat.zero_le _) hok (fun j _ _ => ⟨hq.2.2.1, hr⟩) (fun j hj => absurd hj (by omega)) (fun _ => hbad) [] (fun e => absurd e (by omega)) hfew
  refine hr.mono ?_
  rintro r w' ⟨he, hp, hf⟩
  exact ⟨he.1 hN, hp, hf⟩
theorem ints_from (l : List Int) (hl : l.length ≤ 1000000) : ∀ (d i : Nat), i + d = l.length → PChain.chantryref01_Ints.l0 (d + 1) l l (i : Int) = some true
  | 0, i, h => by
    unfold PChain.chantryref01_Ints.l0
    rw [if_neg (by omega)]
  | d + 1, i, h => by
    have ih := ints_from l hl d (i + 1) (by omega)
    unfold PChain.chantryref01_Ints.l0
    rw [if_pos (by omega), if_pos (by omega), if_pos (by omega), if_pos rfl, up1 i (by omega)]
    exact ih
theorem ints_any {w : World} (A A' : Option Addr) (c c' : Nat) (l : List Int) (hl : l.length ≤ 1000000) (hC : Kd.C (Kd.int .i64) w A l.length l) (hc : l.length ≤ c) (hC' : Kd.C (Kd.int .i64) w A' l.length l) (hc' : l.length ≤ c') :
    Calls Tryz.prog 17 #[.slice A l.length c, .slice A' l.length c'] w fun e w' => e = .returned (.bool true) ∧ Below w.heap.size w w' := by
  have h : PChain.chantryref01_Ints.f (l.length + 1) l l = some true := by
    unfold PChain.chantryref01_Ints.f
    rw [if_pos rfl]
    exact ints_from l hl l.length 0 (by omega)
  exact (PChain.chantryref01_Ints.calls _ A c l A' c' l true w hC hc hC' hc' h).mono (fun _ _ h => ⟨h.1, h.2.below⟩)
theorem row_ofk {k : IntKind} {w : World} {base g cap e : Nat} {ok : Nat → Prop} {xs : List Int} {sp : List Value} (hb : w.heap[g]? = some (.cells (xs.map (Value.int k) ++ sp).toArray e (0, 0))) (hbase : base ≤ g) (hok : ok g) (hc : xs.length + sp.length = cap) (hm : cap ≤ 9223372036854775807) : Kd.R (Kd.int k) e w base ok (.slice (some ⟨g, 0, none⟩) xs.length cap) xs := by
  refine Kd.R_of_own (enc := Value.int k) ?_ (fun k hk => ?_)
  · refine ⟨by simp [encs], .inr ⟨g, cap, _, rfl, hbase, hb, by omega, hm, by simp; omega, ?_⟩⟩
    simp [encs]
  · obtain rfl : g = k := by simpa [Value.ownBlock] using hk
    exact hok
def txt : List Int := List.replicate 299 0 ++ [7]
theorem txt_len : txt.length = 300 := by unfold txt; rw [List.length_append, List.length_replicate]; rfl
theorem txt_byte : ∀ x ∈ txt, 0 ≤ x ∧ x ≤ 255 := by
  intro x hx
  rcases List.mem_append.1 hx with h | h
  · rw [(List.mem_replicate.1 h).2]; decide
  · simp at h; omega
theorem ex_cut : (Cell.cutP 3 [9, 5] txt).2 = 0 := by kernel_rfl
theorem ex_cut1 : (Cell.cutP 3 [9] txt).2 = 1 := by kernel_rfl
theorem ex_cut9 : (Cell.cutP 3 [9, 9] txt).2 = 0 := by kernel_rfl
theorem strF {w : World} {base : Nat} {ok : Nat → Prop} {A : Option Addr} {l c : Nat} {xs : List Int} (h : Kd.R (Kd.int .u8) 5 w base ok (.slice A l c) xs) (x : World) (b : Below w.heap.size w x) : (convert 39 9 (.slice A l c)).run Tryz.prog x = .ok (.string (strOfNums xs)) x := Disk.str8 h x b
structure AS (w0 w : World) (base db sb : Nat) (E : Dk) (tb : Nat) : Prop where
  pd : PD w base db sb E
  fp : FP base db sb w0 w
  low : base ≤ w0.heap.size ∧ db < w0.heap.size ∧ sb < w0.heap.size
  txt : Kd.R (Kd.int .u8) 5 w w0.heap.size (fun _ => True) (.slice (some ⟨tb, 0, none⟩) 300 300) txt
theorem u8_fp {w w' : World} {base db sb n0 : Nat} {v : Value} {xs : List Int} (h : Kd.R (Kd.int .u8) 5 w n0 (fun _ => True) v xs) (f : FP base db sb w w') (hl : db < n0 ∧ sb < n0) : Kd.R (Kd.int .u8) 5 w' n0 (fun _ => True) v xs :=
  R_fr h f (fun i _ hi => by omega) (fun q hq i hi => by
    have hq : q ∈ ([5] : List Nat) := hq
    rw [hi.2] at hq
    revert hq
    decide)
theorem int_fp {w w' : World} {base db sb n0 : Nat} {v : Value} {xs : List Int} (h : Kd.R (Kd.int .i64) 3 w n0 (fun _ => True) v xs) (f : FP base db sb w w') (hl : db < n0 ∧ sb < n0) : Kd.R (Kd.int .i64) 3 w' n0 (fun _ => True) v xs :=
  R_fr h f (fun i _ hi => by omega) (fun q hq i hi => by
    have hq : q ∈ ([3] : List Nat) := hq
    rw [hi.2] at hq
    revert hq
    decide)
theorem AS.step {w0 w w' : World} {base db sb : Nat} {E : Dk} {tb : Nat} (h : AS w0 w base db sb E tb) (f : Below w.heap.size w w') : AS w0 w' base db sb E tb :=
  ⟨h.pd.below f, h.fp.trans (.of_below f), h.low, Kd.R_below h.txt f⟩
theorem AS.disk {w0 w w' : World} {base db sb : Nat} {E E' : Dk} {tb : Nat} (h : AS w0 w base db sb E tb) (p : PD w' base db sb E') (f : FP base db sb w w') : AS w0 w' base db sb E' tb :=
  ⟨p, h.fp.trans f, h.low, u8_fp h.txt f h.low.2⟩
theorem as_write {w0 w : World} {base db sb : Nat} {E : Dk} {tb : Nat} (h : AS w0 w base db sb E tb) (hfew : E.waits.length ≤ 900000) (p : List Int) (pb n : Nat) (hp : w.heap[pb]? = some (.cells (p.map (Value.int .i64)).toArray 3 (0, 0))) (hpb : w0.heap.size ≤ pb) (hn : p.length = n) (hpl : n ≤ 1000) :
    Calls Tryz.prog 9 #[.pointer (some ⟨db, 0, none⟩), .int .i64 3, .slice (some ⟨pb, 0, none⟩) n n, .slice (some ⟨tb, 0, none⟩) 300 300] w fun e w' => e = .returned (.tuple #[partV (chW E 3 p txt).2.1, .int .i64 (chW E 3 p txt).2.2]) ∧ AS w0 w' base db sb (chW E 3 p txt).1 tb ∧ FP base db sb w w' := by
  subst hn
  have hr : Kd.R (Kd.int .i64) 3 w w0.heap.size (fun _ => True) (.slice (some ⟨pb, 0, none⟩) p.length p.length) p := row_ofk (sp := []) (by rw [List.append_nil]; exact hp) hpb trivial (by simp) (by omega)
  have hw := cwrite_any h.pd 3 (some ⟨pb, 0, none⟩) p.length p (some ⟨tb, 0, none⟩) 300 txt (fun x hx => (Kd.R_reads' (int_fp hr hx h.low.2)).2.2) (Kd.R_reads' h.txt).2.2 (Nat.le_refl _) (by rw [txt_len]; decide) txt_byte (by rw [txt_len]; decide) hpl hfew
  rw [txt_len] at hw
  refine hw.mono ?_
  rintro e w' ⟨he, hp', hf⟩
  exact ⟨he, h.disk hp' hf, hf⟩
structure AR (w0 w : World) (base db sb : Nat) (E : Dk) (tb qb : Nat) (A : Option Addr) (c : Nat) (B : Option Addr) (c' : Nat) : Prop where
  as_ : AS w0 w base db sb E tb
  prt : w.heap[qb]? = some (.cells #[.int .i64 9, .int .i64 300, .int .i64 3] 35 (0, 0))
  rd : Kd.R (Kd.int .u8) 5 w w0.heap.size (fun _ => True) (.slice A 300 c) txt
  pl : Kd.R (Kd.int .i64) 3 w w0.heap.size (fun _ => True) (.slice B 2 c') [9, 5]
theorem AR.step {w0 w w' : World} {base db sb : Nat} {E : Dk} {tb qb : Nat} {A : Option Addr} {c : Nat} {B : Option Addr} {c' : Nat} (h : AR w0 w base db sb E tb qb A c B c') (f : Below w.heap.size w w') : AR w0 w' base db sb E tb qb A c B c' :=
  ⟨h.as_.step f, (f.block _ (blk_lt h.prt)).trans h.prt, Kd.R_below h.rd f, Kd.R_below h.pl f⟩
theorem AR.disk {w0 w w' : World} {base db sb : Nat} {E E' : Dk} {tb qb : Nat} {A : Option Addr} {c : Nat} {B : Option Addr} {c' : Nat} (h : AR w0 w base db sb E tb qb A c B c') (p : PD w' base db sb E') (f : FP base db sb w w') : AR w0 w' base db sb E' tb qb A c B c' :=
  ⟨h.as_.disk p f, keep_fp h.as_.pd f h.prt (by decide), u8_fp h.rd f h.as_.low.2, int_fp h.pl f h.as_.low.2⟩
theorem blank_free : Free (blankD 16) := ⟨rfl, rfl⟩
theorem blank_len : (blankD 16).safe.length = 16 := zeros_size 16
theorem ex_write : (chW (blankD 16) 3 [9, 5] txt).2 = ((9, 300, 3), 0) ∧ Wrote (blankD 16) 3 [9, 5] txt (chW (blankD 16) 3 [9, 5] txt).1 := by
  rcases chW_free blank_free 3 [9, 5] txt with ⟨h, _⟩ | ⟨h1, h2, h3⟩
  · refine absurd ?_ h
    obtain ⟨_, h2, _⟩ := cut_ok ex_cut
    have ha : apartP (blankD 16).safe.length [9, 5] = true := by rw [blank_len]; decide
    unfold chW
    rw [if_neg (by rw [ex_cut]; simp), if_pos ha, if_neg (by rw [(wr_free blank_free 3 [9, 5] txt ha h2 ([9, 5] : List Int).length (Nat.le_refl _)).1]; simp)]
  · refine ⟨Prod.ext ?_ h1, h3⟩
    rw [h2, txt_len]
    rfl
theorem rdN_held {D : Dk} {o : Int} {p t : List Int} (h : Held D o p t) (k : Nat) : Held (rdN D k) o p t :=
  ⟨h.cut, by rw [(rdN_same D k).1]; exact h.apart, by rw [(rdN_same D k).2.2.1]; exact h.off, fun j hj => by rw [now_rdN]; exact h.now j hj⟩
theorem ex_apart (D : Dk) : chW D 3 [9, 9] txt = (D, (0, 0, 0), 1) := by
  unfold chW
  rw [if_neg (by rw [ex_cut9]; simp), if_neg (by simp [apartP])]
theorem ex_short (D : Dk) : chW D 3 [9] txt = (D, (0, 0, 0), 1) := by
  unfold chW
  rw [if_pos (by rw [ex_cut1]; decide), ex_cut1]
theorem ex_bad {D : Dk} (h : Held D 3 [9, 5] txt) : linkOk 3 0 (Cell.getP (nowD D 5)) = false := by
  obtain ⟨_, h2, _⟩ := cut_ok ex_cut
  have hn := h.now 1 (by decide)
  rw [show ([9, 5] : List Int).getD 1 0 = 5 from rfl] at hn
  rw [hn, (blk_len (h2 1 (by decide))).2]
  exact decide_eq_false (fun e => absurd e.2.2 (by decide))
set_option maxHeartbeats 32000000 in
set_option maxRecDepth 100000 in
theorem awake_any {w : World} : Calls Tryz.prog 8 #[] w fun e w' => e = .returned (.bool true) ∧ Below w.heap.size w w' := by
  obtain ⟨z3, hz3⟩ : ∃ l, l = List.replicate 300 (0 : Int) := ⟨_, rfl⟩
  have hm3 := Cell.makeN 300 (by omega) z3 hz3
  rw [show ((300 : Nat) : Int) = 300 from rfl] at hm3
  have HZ3 := Aside0.mk hz3
  have HB := Aside0.mk (blank_yes 16 w (by omega))
  rw [show ((16 : Nat) : Int) = 16 from rfl] at HB
  clear hz3
  go_enter Tryz.func8, Tryz.ntmps8
  go_wp2_with fail
  refine HB.out.mono ?_
  clear HB
  rintro r w1 ⟨db, sb, rfl, hp1, b1⟩
  have HP1 := Aside0.mk hp1
  have HB1 := Aside0.mk b1
  clear hp1 b1
  go_upto_region 3 with (fail)
  obtain ⟨tb, htb⟩ : ∃ tb, tb = w1.heap.size := ⟨_, rfl⟩
  obtain ⟨w2, hw2⟩ : ∃ w2, w2 = w1.alloc (.cells (Cell.u8s z3).toArray 5) := ⟨_, rfl⟩
  have b2 : Below w1.heap.size w1 w2 := by rw [hw2]; exact (Below.refl _ _).alloc (Nat.le_refl _) _
  have h2 : w2.heap[tb]? = some (.cells (Cell.u8s z3).toArray 5 (0, 0)) := by rw [hw2, htb]; exact heap_alloc_new w1 _
  have hz : (Cell.u8s z3).toArray[299]? = some (.int .u8 0) := by rw [HZ3.out]; rfl
  have k0 : w2.cell? ⟨tb, 299, none⟩ = some (.int .u8 0) := (Disk.cell_blk h2).trans hz
  have f0 : w2.frozen? ⟨tb, 299, none⟩ = false := Disk.frozen_blk h2
  rw [← hw2, ← htb]
  have HTB := Aside0.mk htb
  have HH2 := Aside0.mk h2
  have HB2 := Aside0.mk b2
  clear hw2 htb h2 b2 hz
  go_upto_region 4 with (fail)
  obtain ⟨w3, hw3⟩ : ∃ w3, w3 = w2.setCell ⟨tb, 299, none⟩ (.int .u8 7) := ⟨_, rfl⟩
  have HH3 := Aside0.mk (show w3.heap[tb]? = some (.cells (txt.map (Value.int .u8) ++ []).toArray 5 (0, 0)) by
    rw [hw3, blk_set HH2.out 299 _, HZ3.out]
    rfl)
  have b3 : Below w1.heap.size w1 w3 := by rw [hw3]; exact HB2.out.setCell (by rw [HTB.out]; exact Nat.le_refl _) _
  rw [← hw3]
  have HD := Aside0.mk (pd_lt HP1.out)
  have HAS := Aside0.mk (show AS w1 w3 w.heap.size db sb (blankD 16) tb from ⟨HP1.out.below b3, .of_below b3, ⟨HB1.out.size, HD.out.1, HD.out.2.1⟩, by
    have q := row_ofk (sp := []) (ok := fun _ => True) HH3.out (show w1.heap.size ≤ tb by rw [HTB.out]; exact Nat.le_refl _) trivial (by simp; rfl) (by rw [txt_len]; decide)
    rw [txt_len] at q
    exact q⟩)
  clear hw3 b3 HH2 HB2 HH3 k0 f0 hm3
  go_wp2_with fail
  obtain ⟨w4, hw4⟩ : ∃ w4, w4 = w3.alloc (.cells #[.int .i64 9, .int .i64 5] 3) := ⟨_, rfl⟩
  have b4 : Below w3.heap.size w3 w4 := by rw [hw4]; exact (Below.refl _ _).alloc (Nat.le_refl _) _
  have h4 : w4.heap[w3.heap.size]? = some (.cells (([9, 5] : List Int).map (Value.int .i64)).toArray 3 (0, 0)) := by rw [hw4]; exact heap_alloc_new w3 _
  have hs3 : w1.heap.size ≤ w3.heap.size := HAS.out.fp.size
  have hwr := as_write (HAS.out.step b4) (by decide) [9, 5] w3.heap.size 2 h4 hs3 rfl (by decide)
  obtain ⟨C, hC⟩ : ∃ C, C = chW (blankD 16) 3 [9, 5] txt := ⟨_, rfl⟩
  have hex := ex_write
  rw [← hC] at hex hwr
  rw [hex.1] at hwr
  obtain ⟨E, hE⟩ : ∃ E, E = C.1 := ⟨_, rfl⟩
  rw [← hE] at hex hwr
  simp only [partV] at hwr
  have HWR := Aside0.mk hwr
  have HEL := Aside0.mk hex.2.held
  have HEW := Aside0.mk (show E.waits.length ≤ 100 by rw [hex.2.waits]; decide)
  have HES := Aside0.mk (show E.safe.length = 16 by rw [hex.2.safe]; exact blank_len)
  rw [← hw4]
  clear hw4 b4 h4 hs3 hwr hC hex hE HAS
  refine HWR.out.mono ?_
  clear HWR
  rintro r w5 ⟨rfl, ha5, _⟩
  have HAS5 := Aside0.mk ha5
  clear ha5
  go_upto_region 5 with (fail)
  obtain ⟨qb, hqb⟩ : ∃ qb, qb = w5.heap.size := ⟨_, rfl⟩
  obtain ⟨w6, hw6⟩ : ∃ w6, w6 = w5.alloc (.cells #[.int .i64 9, .int .i64 300, .int .i64 3] 35) := ⟨_, rfl⟩
  have b6 : Below w5.heap.size w5 w6 := by rw [hw6]; exact (Below.refl _ _).alloc (Nat.le_refl _) _
  have h6 : w6.heap[qb]? = some (.cells #[.int .i64 9, .int .i64 300, .int .i64 3] 35 (0, 0)) := by rw [hw6, hqb]; exact heap_alloc_new w5 _
  have HH6 := Aside0.mk h6
  have HAS6 := Aside0.mk (HAS5.out.step b6)
  rw [← hw6, ← hqb]
  obtain ⟨⟨p0, p1, p2⟩, _⟩ := cells3 h6
  have hrd := read_held HAS6.out.pd 3 [9, 5] txt HEL.out (by rw [txt_len]; decide) (by have := HEW.out; omega)
  rw [txt_len, show ([9, 5] : List Int).getD 0 0 = 9 from rfl, show ([9, 5] : List Int).length = 2 from rfl, show ((300 : Nat) : Int) = 300 from rfl] at hrd
  have HRD := Aside0.mk hrd
  have HQB := Aside0.mk hqb
  clear hw6 hqb b6 h6 hrd HAS5
  go_wp2_with fail
  refine HRD.out.mono ?_
  clear HRD
  rintro r w7 ⟨A, c, B, c', rfl, hr7, hi7, ⟨k7, hp7⟩, hf7⟩
  have hlo := HAS6.out.fp.size
  have HAR7 := Aside0.mk (show AR w1 w7 w.heap.size db sb (rdN E k7) tb qb A c B c' from ⟨HAS6.out.disk hp7 hf7, keep_fp HAS6.out.pd hf7 HH6.out (by decide), Kd.R_lower hr7 hlo, Kd.R_lower hi7 hlo⟩)
  have HE7 := Aside0.mk (rdN_held HEL.out k7)
  have HW7 := Aside0.mk (show (rdN E k7).waits.length ≤ 100 by rw [(rdN_same E k7).2.1]; exact HEW.out)
  have HS7 := Aside0.mk (show (rdN E k7).safe.length = 16 by rw [(rdN_same E k7).1]; exact HES.out)
  obtain ⟨E7, hE7⟩ : ∃ E7, E7 = rdN E k7 := ⟨_, rfl⟩
  rw [← hE7] at HAR7 HE7 HW7 HS7
  clear hr7 hi7 hp7 hf7 hlo hE7 HAS6 HH6 p0 p1 p2 HEL HEW HES
  go_upto_region 6 with (fail)
  have hrb := read_bad HAR7.out.as_.pd 5 58 3 (by rw [HS7.out]; decide) (ready_ok HE7.out.off 5 (by decide) (by rw [HS7.out]; decide)) (ex_bad HE7.out) (by have := HW7.out; omega)
  rw [show ((58 : Nat) : Int) = 58 from rfl] at hrb
  have HRB := Aside0.mk hrb
  clear hrb
  go_wp2_with fail
  refine HRB.out.mono ?_
  clear HRB
  rintro r w8 ⟨rfl, ⟨k8, hp8⟩, hf8⟩
  have HAR8 := Aside0.mk (HAR7.out.disk hp8 hf8)
  have HW8 := Aside0.mk (show (rdN E7 k8).waits.length ≤ 100 by rw [(rdN_same E7 k8).2.1]; exact HW7.out)
  have HS8 := Aside0.mk (show (rdN E7 k8).safe.length = 16 by rw [(rdN_same E7 k8).1]; exact HS7.out)
  obtain ⟨E8, hE8⟩ : ∃ E8, E8 = rdN E7 k8 := ⟨_, rfl⟩
  rw [← hE8] at HAR8 HW8 HS8
  clear hp8 hf8 hE8 HAR7 HE7 HW7 HS7
  go_upto_region 7 with (fail)
  go_wp2_with fail
  obtain ⟨w9, hw9⟩ : ∃ w9, w9 = w8.alloc (.cells #[.int .i64 9, .int .i64 9] 3) := ⟨_, rfl⟩
  have b9 : Below w8.heap.size w8 w9 := by rw [hw9]; exact (Below.refl _ _).alloc (Nat.le_refl _) _
  have h9 : w9.heap[w8.heap.size]? = some (.cells (([9, 9] : List Int).map (Value.int .i64)).toArray 3 (0, 0)) := by rw [hw9]; exact heap_alloc_new w8 _
  have hs8 : w1.heap.size ≤ w8.heap.size := HAR8.out.as_.fp.size
  have hwr9 := as_write (HAR8.out.as_.step b9) (by have := HW8.out; omega) [9, 9] w8.heap.size 2 h9 hs8 rfl (by decide)
  rw [ex_apart] at hwr9
  simp only [partV] at hwr9
  have HWR9 := Aside0.mk hwr9
  have HAR9 := Aside0.mk (HAR8.out.step b9)
  rw [← hw9]
  clear hw9 b9 h9 hs8 hwr9 HAR8
  refine HWR9.out.mono ?_
  clear HWR9
  rintro r w10 ⟨rfl, ha10, hf10⟩
  have HAR10 := Aside0.mk (HAR9.out.disk ha10.pd hf10)
  clear ha10 hf10 HAR9
  go_upto_region 8 with (fail)
  obtain ⟨w11, hw11⟩ : ∃ w11, w11 = w10.alloc (.cells #[.int .i64 0, .int .i64 0, .int .i64 0] 35) := ⟨_, rfl⟩
  have HAR11 := Aside0.mk (HAR10.out.step (show Below w10.heap.size w10 w11 by rw [hw11]; exact (Below.refl _ _).alloc (Nat.le_refl _) _))
  rw [← hw11]
  clear hw11 HAR10
  go_wp2_with fail
  obtain ⟨w12, hw12⟩ : ∃ w12, w12 = w11.alloc (.cells #[.int .i64 9] 3) := ⟨_, rfl⟩
  have b12 : Below w11.heap.size w11 w12 := by rw [hw12]; exact (Below.refl _ _).alloc (Nat.le_refl _) _
  have h12 : w12.heap[w11.heap.size]? = some (.cells (([9] : List Int).map (Value.int .i64)).toArray 3 (0, 0)) := by rw [hw12]; exact heap_alloc_new w11 _
  have hs11 : w1.heap.size ≤ w11.heap.size := HAR11.out.as_.fp.size
  have hwr12 := as_write (HAR11.out.as_.step b12) (by have := HW8.out; omega) [9] w11.heap.size 1 h12 hs11 rfl (by decide)
  rw [ex_short] at hwr12
  simp only [partV] at hwr12
  have HWR12 := Aside0.mk hwr12
  have HAR12 := Aside0.mk (HAR11.out.step b12)
  rw [← hw12]
  clear hw12 b12 h12 hs11 hwr12 HAR11
  refine HWR12.out.mono ?_
  clear HWR12
  rintro r w13 ⟨rfl, ha13, hf13⟩
  have HAR13 := Aside0.mk (HAR12.out.disk ha13.pd hf13)
  clear ha13 hf13 HAR12
  go_upto_region 9 with (fail)
  obtain ⟨w14, hw14⟩ : ∃ w14, w14 = w13.alloc (.cells #[.int .i64 0, .int .i64 0, .int .i64 0] 35) := ⟨_, rfl⟩
  have HAR14 := Aside0.mk (HAR13.out.step (show Below w13.heap.size w13 w14 by rw [hw14]; exact (Below.refl _ _).alloc (Nat.le_refl _) _))
  rw [← hw14]
  clear hw14 HAR13
  have hra := cread_arg HAR14.out.as_.pd 1 1 1 (by rw [HS8.out]; decide)
  have HRA := Aside0.mk hra
  clear hra
  go_wp2_with fail
  refine HRA.out.mono ?_
  clear HRA
  rintro r w15 ⟨rfl, hp15, hf15⟩
  have HAR15 := Aside0.mk (HAR14.out.disk hp15 hf15)
  clear hp15 hf15 HAR14
  go_upto_region 10 with (fail)
  go_wp2_with fail
  obtain ⟨w16, hw16⟩ : ∃ w16, w16 = w15.alloc (.cells #[.int .i64 9] 3) := ⟨_, rfl⟩
  have HAR16 := Aside0.mk (HAR15.out.step (show Below w15.heap.size w15 w16 by rw [hw16]; exact (Below.refl _ _).alloc (Nat.le_refl _) _))
  rw [← hw16]
  clear hw16 HAR15
  refine (cwrite_nil (w := w16) 3 _ _).mono ?_
  rintro r w17 ⟨rfl, b17⟩
  have HAR17 := Aside0.mk (HAR16.out.step b17)
  clear b17 HAR16
  simp only [partV]
  go_upto_region 11 with (fail)
  obtain ⟨w18, hw18⟩ : ∃ w18, w18 = w17.alloc (.cells #[.int .i64 0, .int .i64 0, .int .i64 0] 35) := ⟨_, rfl⟩
  have HAR18 := Aside0.mk (HAR17.out.step (show Below w17.heap.size w17 w18 by rw [hw18]; exact (Below.refl _ _).alloc (Nat.le_refl _) _))
  rw [← hw18]
  clear hw18 HAR17
  obtain ⟨⟨p0, p1, p2⟩, _⟩ := cells3 HAR18.out.prt
  go_wp2_with fail
  clear p0 p1 p2
  refine (cread_nil (w := w18) 9 300 3).mono ?_
  rintro r w19 ⟨rfl, b19⟩
  have HAR19 := Aside0.mk (HAR18.out.step b19)
  clear b19 HAR18
  go_upto_region 12 with (fail)
  obtain ⟨⟨p0, p1, p2⟩, _⟩ := cells3 HAR19.out.prt
  have heq : ∀ x : World, (binOp .eql 35 (.agg #[.int .i64 9, .int .i64 300, .int .i64 3]) (.agg #[.int .i64 9, .int .i64 300, .int .i64 3])).run Tryz.prog x = .ok (.bool true) x := fun x => by kernel_rfl
  obtain ⟨S, hS⟩ : ∃ S, S = strOfNums txt := ⟨_, rfl⟩
  have s1 := strF HAR19.out.rd w19 (Below.refl _ _)
  have s2 := strF HAR19.out.as_.txt w19 (Below.refl _ _)
  rw [← hS] at s1 s2
  clear hS
  go_wp2_with fail
  clear s1 s2 p0 p1 p2 heq
  obtain ⟨w20, hw20⟩ : ∃ w20, w20 = w19.alloc (.cells #[.int .i64 9, .int .i64 5] 3) := ⟨_, rfl⟩
  have b20 : Below w19.heap.size w19 w20 := by rw [hw20]; exact (Below.refl _ _).alloc (Nat.le_refl _) _
  have h20 : w20.heap[w19.heap.size]? = some (.cells (([9, 5] : List Int).map (Value.int .i64)).toArray 3 (0, 0)) := by rw [hw20]; exact heap_alloc_new w19 _
  have HAR20 := Aside0.mk (HAR19.out.step b20)
  rw [← hw20]
  have hin := ints_any (w := w20) B (some ⟨w19.heap.size, 0, none⟩) c' 2 [9, 5] (by decide) (Kd.R_reads' HAR20.out.pl).2.2 (Kd.R_reads' HAR20.out.pl).2.1 (Cell.rowV h20 (by decide)) (Nat.le_refl _)
  rw [show ([9, 5] : List Int).length = 2 from rfl] at hin
  clear hw20 b20 h20 HAR19
  refine hin.mono ?_
  clear hin
  rintro r w21 ⟨rfl, b21⟩
  have HAR21 := Aside0.mk (HAR20.out.step b21)
  clear b21 HAR20
  obtain ⟨⟨p0, p1, p2⟩, _⟩ := cells3 HAR21.out.prt
  go_wp2_with fail
  clear p0 p1 p2
  refine (part_any (w := w21) 9 300 3 16).mono ?_
  rintro r w22 ⟨rfl, b22⟩
  have HAR22 := Aside0.mk (HAR21.out.step b22)
  clear b22 HAR21
  obtain ⟨⟨p0, p1, p2⟩, _⟩ := cells3 HAR22.out.prt
  rw [show partOk 9 300 3 16 = true from rfl]
  go_wp2_with fail
  clear p0 p1 p2
  refine (part_any (w := w22) 9 300 3 9).mono ?_
  rintro r w23 ⟨rfl, b23⟩
  have HAR23 := Aside0.mk (HAR22.out.step b23)
  clear b23 HAR22
  rw [show partOk 9 300 3 9 = false from rfl]
  go_wp2_with fail
  go_ret
  refine ⟨rfl, ?_⟩
  obtain ⟨vw, cs, sp, px⟩ := HP1.out
  exact HB1.out.trans (Disk.FP.below HAR23.out.as_.fp px.dbase px.sbase HB1.out.size)
end Ch
end Go.Proofs.YtclneeamemofoaaGreat
end
section
namespace Go.Proofs.YtclneeamemofoaaGreat
set_option linter.unusedVariables false
set_option linter.unusedSimpArgs false
open Go.RowKit Go.Proofs.YtclneeamemofoaaGreatW.PrintWords Go.Proofs.YtclneeamemofoaaGreatW.PrintLast Go.Proofs.YtclneeamemofoaaGreatW.PrintMore
namespace Ch
open Go.Disk Go.Proofs.YtclneeamemofoaaGreat.Disk
abbrev Tx := PChain.S41
abbrev kTx := PChain.k41
def small (y : Tx) : Prop := y.f1.length ≤ 12 ∧ y.f2.length ≤ 1500
theorem rdT_mem (ys : List Tx) (i : Nat) (hi : i < ys.length) : PChain.rd_T41 ys (i : Int) = ys[i] := by
  unfold PChain.rd_T41
  rw [Int.toNat_natCast, List.getD_eq_getElem?_getD, List.getElem?_eq_getElem hi]
  rfl
theorem few_from (ys : List Tx) (hl : ys.length ≤ 8) : ∀ (d i : Nat), i + d = ys.length → ∃ r, PChain.chantrylaw10_few.l0 (d + 1) ys (i : Int) = some r ∧ (r = true → ∀ j, i ≤ j → ∀ (hj : j < ys.length), small ys[j])
  | 0, i, h => by
    refine ⟨true, ?_, fun _ j hj hj2 => absurd hj2 (by omega)⟩
    unfold PChain.chantrylaw10_few.l0
    rw [if_neg (by omega)]
  | d + 1, i, h => by
    have hi : i < ys.length := by omega
    obtain ⟨r, hr, hq⟩ := few_from ys hl d (i + 1) (by omega)
    by_cases c1 : ((PChain.rd_T41 ys (i : Int)).f1.length : Int) > 12
    · refine ⟨false, ?_, fun e => by cases e⟩
      unfold PChain.chantrylaw10_few.l0
      rw [if_pos (by omega), if_pos (by omega), if_pos c1]
    · by_cases c2 : ((PChain.rd_T41 ys (i : Int)).f2.length : Int) > 1500
      · refine ⟨false, ?_, fun e => by cases e⟩
        unfold PChain.chantrylaw10_few.l0
        rw [if_pos (by omega), if_pos (by omega), if_neg c1, if_pos c2]
      · refine ⟨r, ?_, fun e j hj hj2 => ?_⟩
        · unfold PChain.chantrylaw10_few.l0
          rw [if_pos (by omega), if_pos (by omega), if_neg c1, if_neg c2, up1 i (by omega)]
          exact hr
        · by_cases e' : j = i
          · subst e'
            rw [rdT_mem ys j hi] at c1 c2
            exact ⟨by omega, by omega⟩
          · exact hq e j (by omega) hj2
theorem few_any {w : World} (A : Option Addr) (c : Nat) (ys : List Tx) (hC : Kd.C kTx w A ys.length ys) (hc : ys.length ≤ c) :
    Calls Tryz.prog 6 #[.slice A ys.length c] w fun e w' => ∃ r, e = .returned (.bool r) ∧ (r = true → ys.length ≤ 8 ∧ ∀ j, ∀ (hj : j < ys.length), small ys[j]) ∧ Below w.heap.size w w' := by
  by_cases hl : (ys.length : Int) > 8
  · have h : PChain.chantrylaw10_few.f 0 ys = some false := by unfold PChain.chantrylaw10_few.f; rw [if_pos hl]
    refine (PChain.chantrylaw10_few.calls 0 A c ys _ w hC hc h).mono ?_
    rintro e w' ⟨he, hb⟩
    exact ⟨false, he, fun q => absurd q (by decide), hb.below⟩
  · obtain ⟨r, hr, hq⟩ := few_from ys (by omega) ys.length 0 (by omega)
    have h : PChain.chantrylaw10_few.f (ys.length + 1) ys = some r := by unfold PChain.chantrylaw10_few.f; rw [if_neg hl]; exact hr
    refine (PChain.chantrylaw10_few.calls _ A c ys _ w hC hc h).mono ?_
    rintro e w' ⟨he, hb⟩
    exact ⟨r, he, fun e => ⟨by omega, fun j hj => hq e j (Nat.zero_le _) hj⟩, hb.below⟩
end Ch
end Go.Proofs.YtclneeamemofoaaGreat
end
section
namespace Go.Proofs.YtclneeamemofoaaGreat
set_option linter.unusedVariables false
set_option linter.unusedSimpArgs false
open Go.RowKit Go.Proofs.YtclneeamemofoaaGreatW.PrintWords Go.Proofs.YtclneeamemofoaaGreatW.PrintLast Go.Proofs.YtclneeamemofoaaGreatW.PrintMore
namespace Disk
open Go.Disk PDiskDoes PChain
structure Off (w : World) (S : Nat → Prop) (xb : Nat) (vw : Value) : Prop where
  old : ∀ k, S k → k < w.heap.size
  own : ∀ k, vw.ownBlock = some k → ¬ S k
  xb : ¬ S xb
def RQ (w : World) (base sb xb : Nat) (D : Dk) (S : Nat → Prop) : Prop := ∃ vs vw, RDx w base sb xb D vs vw ∧ Off w S xb vw
theorem RQ.rd {w : World} {base sb xb : Nat} {D : Dk} {S : Nat → Prop} (h : RQ w base sb xb D S) : RD w base sb xb D := by
  obtain ⟨vs, vw, h, _⟩ := h
  exact ⟨vs, vw, h⟩
abbrev KS (S : Nat → Prop) (w w' : World) : Prop := ∀ k, S k → w'.heap[k]? = w.heap[k]?
theorem KS.trans' {S : Nat → Prop} {x y z : World} (h : KS S x y) (k : KS S y z) : KS S x z := fun i hi => (k i hi).trans (h i hi)
theorem KS.below {S : Nat → Prop} {x y : World} (ho : ∀ k, S k → k < x.heap.size) (h : Below x.heap.size x y) : KS S x y := fun i hi => h.block i (ho i hi)
theorem KS.set {S : Nat → Prop} (w : World) (b k : Nat) (v : Value) (hb : ¬ S b) : KS S w (w.setCell ⟨b, k, none⟩ v) := fun i hi => Below.heap_setCell _ _ _ _ (fun e => hb (by have e' : i = b := e; rw [← e']; exact hi))
theorem Off.up {w w' : World} {S : Nat → Prop} {xb : Nat} {vw : Value} (h : Off w S xb vw) (f : w.heap.size ≤ w'.heap.size) : Off w' S xb vw := ⟨fun k hk => Nat.lt_of_lt_of_le (h.old k hk) f, h.own, h.xb⟩
theorem RQ.below {w w' : World} {base sb xb : Nat} {D : Dk} {S : Nat → Prop} (h : RQ w base sb xb D S) (b : Below w.heap.size w w') : RQ w' base sb xb D S := by
  obtain ⟨vs, vw, h, o⟩ := h
  exact ⟨vs, vw, h.below b, o.up b.size⟩
set_option maxHeartbeats 8000000 in
set_option maxRecDepth 100000 in
theorem xdeedQ {w : World} {base sb xb : Nat} {D : Dk} {S : Nat → Prop} (h : RQ w base sb xb D S) :
    Calls Tryz.prog 61 #[.pointer (some ⟨xb, 0, none⟩)] w fun e w' => e = .returned (.bool (decide (D.left ≠ 0))) ∧ RQ w' base sb xb (deedD D) S ∧ FX base xb w w' ∧ KS S w w' := by
  obtain ⟨vs, vw, h, hof⟩ := h
  have HOF := Aside0.mk hof
  clear hof
  have c2 : w.cell? ⟨xb, 2, none⟩ = some (.int .i64 D.left) := cell_blk h.cells
  have f2 : w.frozen? ⟨xb, 2, none⟩ = false := frozen_blk h.cells
  have c3 : w.cell? ⟨xb, 3, none⟩ = some (.bool D.off) := cell_blk h.cells
  have f3 : w.frozen? ⟨xb, 3, none⟩ = false := frozen_blk h.cells
  have HX := Aside0.mk h
  have ho := HX.out.ok
  have hl := ho.left
  have HOK := Aside0.mk ho
  clear h ho
  unfold deedD
  obtain ⟨L, hL⟩ : ∃ L, L = D.left := ⟨_, rfl⟩
  by_cases h0 : D.left = 0
  · rw [if_pos h0, decide_eq_false (fun h => h h0)]
    rw [h0] at c2
    clear hL
    go_enter Tryz.func61, Tryz.ntmps61
    go_wp2_with fail
    go_ret
    have ho := HOK.out
    exact ⟨rfl, ⟨vs, vw, HX.out.put 3 (.bool true) (D' := { D with off := true }) ⟨ho.few, ho.len, ho.byte, ho.at_, ho.left⟩ rfl rfl rfl, HOF.out.up (by simp [World.setCell])⟩, .set _ _ _ _ rfl, KS.set _ _ _ _ HOF.out.xb⟩
  · rw [if_neg h0, decide_eq_true h0]
    have ho := HOK.out
    by_cases h1 : 0 < D.left
    · have hm : max (D.left - 1) (-1) = D.left - 1 := by omega
      rw [hm]
      rw [← hL] at c2 hl h0 h1
      have HL := Aside0.mk hL
      clear hL hm ho
      go_enter Tryz.func61, Tryz.ntmps61
      go_wp2_with fail
      go_ret
      have ho := HOK.out
      have hL := HL.out
      exact ⟨rfl, ⟨vs, vw, HX.out.put 2 (.int .i64 (L - 1)) (D' := { D with left := D.left - 1 }) ⟨ho.few, ho.len, ho.byte, ho.at_, ⟨by show -1 ≤ D.left - 1; omega, by show D.left - 1 ≤ 9223372036854775807; omega⟩⟩ rfl rfl (by rw [hL]; rfl), HOF.out.up (by simp [World.setCell])⟩, .set _ _ _ _ rfl, KS.set _ _ _ _ HOF.out.xb⟩
    · have hm : max (D.left - 1) (-1) = D.left := by omega
      have hl1 : D.left = -1 := by omega
      rw [hm]
      rw [hl1] at c2
      clear hL hm ho h0 hl h1
      go_enter Tryz.func61, Tryz.ntmps61
      go_wp2_with fail
      go_ret
      exact ⟨rfl, ⟨vs, vw, HX.out, HOF.out⟩, .refl _ _ _, fun _ _ => rfl⟩
set_option maxHeartbeats 8000000 in
set_option maxRecDepth 100000 in
theorem xwriteQ {w : World} {base sb xb : Nat} {D : Dk} {S : Nat → Prop} (h : RQ w base sb xb D S) (N : Int) (hr : ready D N = 0) (a : Addr) (c : Nat) (bs : List Int) (hl : bs.length = 256) (hby : ∀ x ∈ bs, 0 ≤ x ∧ x ≤ 255) (hC : ∀ x, Below w.heap.size w x → Kd.C (Kd.int .u8) x (some a) bs.length bs) (hfew : D.waits.length ≤ 1000000) :
    Calls Tryz.prog 27 #[.pointer (some ⟨xb, 0, none⟩), .int .i64 N, .slice (some a) bs.length c] w fun e w' => e = .returned (.int .i64 (writeD D N bs).2) ∧ RQ w' base sb xb (writeD D N bs).1 S ∧ FX base xb w w' ∧ KS S w w' := by
  obtain ⟨hoff, hN⟩ := ready_in hr
  have HP := Aside0.mk h.rd
  have HR := Aside0.mk hr
  have HC := Aside0.mk hC
  have HBY := Aside0.mk hby
  obtain ⟨vs, vw, hx, hof⟩ := h
  obtain ⟨AW, cW, rfl⟩ := Kd.R_slice hx.waits
  have HX := Aside0.mk hx
  have HOF := Aside0.mk hof
  clear hof
  have hdl : xb < w.heap.size := blk_lt hx.cells
  have c3 : w.cell? ⟨xb, 3, none⟩ = some (.bool false) := by rw [← hoff]; exact cell_blk hx.cells
  have ht := there_any N HP.out
  rw [decide_eq_true hN] at ht
  clear hx hr hC hby hoff
  rw [hl]
  go_enter Tryz.func27, Tryz.ntmps27
  go_wp2_with fail
  refine ht.mono ?_
  rintro e w1 ⟨rfl, rfl⟩
  clear ht c3
  go_wp2_with fail
  have hm1 : ∀ m : Go.Reg.In (Below w1.heap.size w1), m.w.cell? ⟨xb, 1, none⟩ = some (.slice AW D.waits.length cW) := fun m => by rw [m.h.cell hdl]; exact cell_blk HX.out.cells
  refine Go.Reg.region (Below w1.heap.size w1) [.p, .s, .s, .s, .s, .s, .w, .s, .w, .s, .w, .x, .p, .p, .x] (by kernel_rfl) (by kernel_rfl) (below_drew1 (Below.refl _ _)) (fun ne => ?_)
  refine Go.Reg.lex_qp 1 _ _ _ _ _ (by rfl) ?_; simp only [List.take_succ_cons, List.take_zero, List.drop_succ_cons, List.drop_zero]; (repeat (go_big_quiet_step (rfl))); refine wpQuiet_nil ?_
  refine Go.Reg.lex_q 5 _ _ _ _ (by rfl) ?_; simp only [List.take_succ_cons, List.take_zero, List.drop_succ_cons, List.drop_zero]; (repeat (go_big_quiet_step (rfl))); refine wpQuiet_nil ?_
  refine Go.Reg.step_w (fun K hK => ?_)
  go_wp2_with fail
  obtain ⟨w2, hw2⟩ : ∃ w2, w2 = (w1.alloc (.cells #[] 5)).drew := ⟨_, rfl⟩
  have HB2 := Aside0.mk (show Below w1.heap.size w1 w2 by rw [hw2]; exact below_drew1 ((Below.refl _ _).alloc (Nat.le_refl _) _))
  have HO2 := Aside0.mk (show Kd.R (Kd.int .u8) 5 w2 w1.heap.size (fun _ => True) (.slice (some ⟨w1.heap.size, 0, none⟩) 0 0) [] by rw [hw2]; exact Kd.R_drew ⟨fun _ _ => trivial, OwnRow.lit w1 w1.heap.size (Reps.none _ _) (Nat.le_refl _) (by simp)⟩)
  rw [← hw2]
  clear hw2
  refine hK.out _ _ HB2.out ?_
  clear hK K
  try simp only [Act.put, List.setIfInBounds_toArray, List.set_cons_succ, List.set_cons_zero]
  refine Go.Reg.lex_q 1 _ _ _ _ (by rfl) ?_; simp only [List.take_succ_cons, List.take_zero, List.drop_succ_cons, List.drop_zero]; (repeat (go_big_quiet_step (rfl))); refine wpQuiet_nil ?_
  refine Go.Reg.step_w (fun K hK => ?_)
  refine Kd.R_append_rows (Kd.int .u8) (Rr := (Kd.int .u8).K w2) (w0 := w1) w1.heap.size rfl (.tmp 27) (.tmp 28) 39 5 (.int .u8 0) 1 rfl Tryz.underlying39 infoU8 rfl (by decide) (by omega) (.slice (some ⟨w1.heap.size, 0, none⟩) 0 0) [] bs (some a) 256 c (fun _ => True) (fun _ => False) rfl rfl HO2.out (by have := HC.out _ HB2.out; rw [hl] at this; exact this) (fun x cs h => h) (fun _ hk => hk.elim) (fun _ _ => trivial) HB2.out HB2.out.size (by simp) ?_
  intro vb w3 hrb hb3 _ _
  rw [List.nil_append] at hrb
  obtain ⟨AB, cB, rfl⟩ := Kd.R_slice hrb
  have HRB := Aside0.mk hrb
  have HB3 := Aside0.mk hb3
  rw [hl]
  clear hrb hb3
  refine hK.out _ _ HB3.out ?_
  clear hK K
  try simp only [Act.put, List.setIfInBounds_toArray, List.set_cons_succ, List.set_cons_zero]
  refine Go.Reg.lex_q 1 _ _ _ _ (by rfl) ?_; simp only [List.take_succ_cons, List.take_zero, List.drop_succ_cons, List.drop_zero]; (repeat (go_big_quiet_step (rfl))); refine wpQuiet_nil ?_
  refine Go.Reg.step_w (fun K hK => ?_)
  go_wp2_with fail
  refine hK.out _ _ (HB3.out.alloc HB3.out.size _) ?_
  clear hK K
  refine Go.Reg.step_x (by rfl) (fun K hK => ?_)
  have hs3 : w1.heap.size ≤ w3.heap.size := HB3.out.size
  have hsl : sb < w1.heap.size := HX.out.slt
  have hdb := HX.out.xbase
  have HOW := Aside0.mk (Kd.R_lt HX.out.waits)
  have HX3 := Aside0.mk (HX.out.below HB3.out)
  refine Kd.R_append kW (w0 := w3) (W := w3) 0 rfl (.tmp 25) (.tmp 31) 75 106 (.agg #[.int .i64 0, .slice none 0 0]) 32 rfl Tryz.underlying75 infoX rfl (by decide) (by omega) (.slice AW D.waits.length cW) D.waits (N, bs) [.int .i64 N, .slice AB 256 cB] (fun k => k ≠ sb) (fun k => w1.heap.size ≤ k) rfl rfl ?aP ?aK ?aF ?aO (Below.refl _ _) ?aB ?aL ?_
  case aP => exact ⟨[.int .i64 N], [.slice AB 256 cB], rfl, rfl, _, rfl, by
    have h1 := HRB.out
    rw [hl] at h1
    exact Kd.R_mono (Kd.R_lower (Kd.R_bound h1) (Nat.zero_le _)) (fun k hk => hk.2.1)⟩
  case aK => exact fun k hk => ⟨by omega, fun e => by have := HOW.out k e.symm; omega⟩
  case aF => exact fun k hk => by omega
  case aO => exact HX3.out.waits
  case aB => omega
  case aL => omega
  intro v4 w4 ho4 _ hg4 hat4
  have HWO := Aside0.mk (show ∀ k, v4.ownBlock = some k → base ≤ k from fun k hk => by
    rcases hat4 with h | ⟨b, h1, h2⟩
    · exact HX.out.wown k (h ▸ hk)
    · rw [h1] at hk; cases hk; have := HX.out.xbase; omega)
  have HOS := Aside0.mk (show ∀ k, v4.ownBlock = some k → ¬ S k from fun k hk hS => by
    rcases hat4 with h | ⟨b, h1, h2⟩
    · exact HOF.out.own k (h ▸ hk) hS
    · rw [h1] at hk; cases hk; have := HOF.out.old k hS; omega)
  obtain ⟨A4, c4, rfl⟩ := Kd.R_slice ho4
  have hlen1 : (D.waits ++ [(N, bs)]).length = D.waits.length + 1 := by simp
  rw [hlen1] at ho4 HWO HOS
  rw [hlen1]
  clear hlen1
  have HO4 := Aside0.mk ho4
  have hned : some xb ≠ (Value.slice AW D.waits.length cW).ownBlock := Kd.R_ne HX3.out.waits HX3.out.cells (by decide)
  have k4 := (hg4.block xb (by omega) hned).trans HX3.out.cells
  have HK4 := Aside0.mk k4
  have HSF := Aside0.mk (show Kd.R kB 39 w4 0 (fun k => k ≠ sb) vs D.safe from by
    refine Kd.R_mono (Kd.R_step (Kd.R_bound HX3.out.safe) (fun k hk hlt => hg4.block k hlt (fun e => ?_))) (fun _ hk => hk.1)
    obtain ⟨_, _, _, q, hq, cells, hc⟩ := hk
    obtain ⟨cells', hcells⟩ := own_typed (Kd.R_own HX3.out.waits).choose_spec k e.symm
    rw [hc] at hcells
    cases hcells
    exact absurd hq (by decide))
  have d1 : w4.cell? ⟨xb, 1, none⟩ = some (.slice AW D.waits.length cW) := cell_blk k4
  have g1 : w4.frozen? ⟨xb, 1, none⟩ = false := frozen_blk k4
  have HF4 := Aside0.mk (show FX base xb w1 w4 from (Fr.of_below HB3.out).trans ⟨hg4.os, hg4.tape, hg4.output, hg4.size, fun k hk hne ht => hg4.block k hk (fun e => by
    obtain ⟨cells, hcells⟩ := own_typed (Kd.R_own HX3.out.waits).choose_spec k e.symm
    exact ht _ _ _ hcells ⟨HX3.out.wown k e.symm, .inr rfl⟩)⟩)
  have HK4S := Aside0.mk (show KS S w1 w4 from (KS.below HOF.out.old HB3.out).trans' (fun k hk => hg4.block k (by have := HOF.out.old k hk; omega) (fun e => HOF.out.own k e.symm hk)))
  clear ho4 hg4 hat4 k4 hned
  refine hK.out _ _ ?_
  clear hK K
  try simp only [Act.put, List.setIfInBounds_toArray, List.set_cons_succ, List.set_cons_zero]
  refine Go.Reg.lex_qp 2 _ _ _ _ _ (by rfl) ?_; simp only [List.take_succ_cons, List.take_zero, List.drop_succ_cons, List.drop_zero]; (repeat (go_big_quiet_step (rfl))); refine wpQuiet_nil ?_
  refine Go.Reg.step_x (by rfl) (fun K hK => ?_)
  go_wp2_with fail
  refine hK.out _ _ ?_
  clear hK K
  refine Go.Reg.lex_nil ?_
  have hset := blk_set HK4.out 1 (.slice A4 (D.waits.length + 1) c4)
  obtain ⟨w5, hw5⟩ : ∃ w5, w5 = w4.setCell ⟨xb, 1, none⟩ (.slice A4 (D.waits.length + 1) c4) := ⟨_, rfl⟩
  have hp5 : RQ w5 base sb xb (waitD D N bs) S := by
    refine ⟨vs, .slice A4 (D.waits.length + 1) c4, ⟨wait_ok HX.out.ok N bs hN hl HBY.out, HX.out.xbase, ?_, HX.out.sown, HWO.out, ?_, ?_, ?_⟩, ⟨fun k hk => by rw [hw5]; have := HF4.out.size; have := HOF.out.old k hk; simp [World.setCell]; omega, HOS.out, HOF.out.xb⟩⟩
    · rw [hw5]; have := HF4.out.size; simp [World.setCell]; omega
    · rw [hw5, hset]; rfl
    · rw [hw5]; exact Kd.R_set HSF.out HK4.out (by decide) 1 _
    · rw [hw5]; exact Kd.R_set HO4.out HK4.out (by decide) 1 _
  have hf5 : FX base xb w1 w5 := by rw [hw5]; exact HF4.out.trans (.set _ _ _ _ rfl)
  have HK5S := Aside0.mk (show KS S w1 w5 from by rw [hw5]; exact HK4S.out.trans' (KS.set _ _ _ _ HOF.out.xb))
  try rw [← hw5]
  have HP5 := Aside0.mk hp5
  have HF5 := Aside0.mk hf5
  clear hw5 hset hp5 hf5 d1 g1
  go_wp2_with fail
  refine (xdeedQ HP5.out).mono ?_
  rintro e w6 ⟨rfl, hp6, hf6, hk6⟩
  have HK6S := Aside0.mk (HK5S.out.trans' hk6)
  have HP6 := Aside0.mk hp6
  have HF6 := Aside0.mk (HF5.out.trans hf6)
  clear hp6 hf6 hk6
  have hwd : writeD D N bs = if D.left = 0 then (deedD (waitD D N bs), 9) else ({ deedD (waitD D N bs) with writes := wrap64 (D.writes + 1) }, 0) := by
    unfold writeD
    rw [HR.out, if_neg (by simp), if_neg (by rw [hl]; simp)]
  have HWD := Aside0.mk hwd
  clear hwd
  by_cases hz : D.left = 0
  · rw [show (waitD D N bs).left = D.left from rfl, decide_eq_false (fun h => h hz)]
    go_wp2_with fail
    go_ret
    rw [HWD.out, if_pos hz]
    exact ⟨rfl, HP6.out, HF6.out, HK6S.out⟩
  · rw [show (waitD D N bs).left = D.left from rfl, decide_eq_true hz]
    obtain ⟨vs6, vw6, hx6, ho6⟩ := HP6.out
    have HO6 := Aside0.mk ho6
    clear ho6
    have hwr : (deedD (waitD D N bs)).writes = D.writes := by unfold deedD; rw [show (waitD D N bs).left = D.left from rfl, if_neg hz]; rfl
    have c5 : w6.cell? ⟨xb, 5, none⟩ = some (.int .i64 D.writes) := by rw [← hwr]; exact cell_blk hx6.cells
    have f5 : w6.frozen? ⟨xb, 5, none⟩ = false := frozen_blk hx6.cells
    have HX6 := Aside0.mk hx6
    have HWR := Aside0.mk hwr
    clear hx6 hwr
    go_wp2_with fail
    go_ret
    rw [HWD.out, if_neg hz]
    exact ⟨rfl, ⟨vs6, vw6, HX6.out.put 5 _ (D' := { deedD (waitD D N bs) with writes := wrap64 (D.writes + 1) }) (cnt_ok HX6.out.ok rfl rfl rfl) rfl rfl rfl, HO6.out.up (by simp [World.setCell])⟩, HF6.out.trans (.set _ _ _ _ rfl), HK6S.out.trans' (KS.set _ _ _ _ HOF.out.xb)⟩
theorem xwriteQ_uni {w : World} {base sb xb : Nat} {D : Dk} {S : Nat → Prop} (h : RQ w base sb xb D S) (N : Int) (A : Option Addr) (c : Nat) (bs : List Int) (hby : ∀ x ∈ bs, 0 ≤ x ∧ x ≤ 255) (hC : ∀ x, Below w.heap.size w x → Kd.C (Kd.int .u8) x A bs.length bs) (hfew : D.waits.length ≤ 1000000) :
    Calls Tryz.prog 27 #[.pointer (some ⟨xb, 0, none⟩), .int .i64 N, .slice A bs.length c] w fun e w' => e = .returned (.int .i64 (writeD D N bs).2) ∧ RQ w' base sb xb (writeD D N bs).1 S ∧ FX base xb w w' ∧ KS S w w' := by
  by_cases hr : ready D N = 0
  · by_cases hl : bs.length = 256
    · obtain ⟨a, rfl⟩ : ∃ a, A = some a := by obtain ⟨a, ha, _⟩ := (hC _ (Below.refl _ _)).2.2 (by omega); exact ⟨a, ha⟩
      exact xwriteQ h N hr a c bs hl hby hC hfew
    · rw [write_long hr hl]
      refine (xwrite_size h.rd N hr A _ c hl).mono ?_
      rintro e w' ⟨he, rfl⟩
      exact ⟨he, h, .refl _ _ _, fun _ _ => rfl⟩
  · rw [write_ready hr]
    refine (xwrite_no h.rd N hr A _ c).mono ?_
    rintro e w' ⟨he, rfl⟩
    exact ⟨he, h, .refl _ _ _, fun _ _ => rfl⟩
end Disk
end Go.Proofs.YtclneeamemofoaaGreat
end
section
namespace Go.Proofs.YtclneeamemofoaaGreat
set_option linter.unusedVariables false
set_option linter.unusedSimpArgs false
open Go.RowKit Go.Proofs.YtclneeamemofoaaGreatW.PrintWords Go.Proofs.YtclneeamemofoaaGreatW.PrintLast Go.Proofs.YtclneeamemofoaaGreatW.PrintMore
namespace Ch
open Go.Disk Go.Proofs.YtclneeamemofoaaGreat.Disk
theorem rd_take (p : List Int) (i : Nat) (hi : i < p.length) : p.take (i + 1) = p.take i ++ [rd p i] := by
  unfold rd; simp [hi]
theorem rd_mem (p : List Int) (j i : Nat) (hj : j < i) (hi : i ≤ p.length) : rd p j ∈ p.take i := by
  have : rd p j = p[j] := by unfold rd; simp [show j < p.length by omega]
  rw [this, List.mem_take_iff_getElem]
  exact ⟨j, by omega, rfl⟩
theorem mem_rd (p : List Int) (x : Int) (i : Nat) (hi : i ≤ p.length) (h : x ∈ p.take i) : ∃ j, j < i ∧ rd p j = x := by
  rw [List.mem_take_iff_getElem] at h
  obtain ⟨j, hj, e⟩ := h
  exact ⟨j, by omega, by rw [← e]; unfold rd; simp [show j < p.length by omega]⟩
theorem apart_no (n : Int) (p : List Int) (i : Nat) (h : apartP n (p.take i) = false) : apartP n p = false := by
  cases hq : apartP n p with
  | false => rfl
  | true => rw [← List.take_append_drop i p] at hq; rw [apart_less _ _ _ hq] at h; cases h
theorem places_from (n : Int) (p : List Int) (hp : p.length ≤ 1000000) : ∀ (d i : Nat), i + d = p.length → apartP n (p.take i) = true → ∃ k, PChain.chantryref10_places.l0 k p n (i : Int) = some (apartP n p)
  | 0, i, h, ha => ⟨1, by
      unfold PChain.chantryref10_places.l0
      rw [if_neg (by omega)]
      rw [List.take_of_length_le (by omega)] at ha
      rw [ha]⟩
  | d + 1, i, h, ha => by
    have hi : i < p.length := by omega
    have hsn := apart_snoc n (p.take i) (rd p i)
    rw [← rd_take p i hi, ha, Bool.true_and] at hsn
    by_cases c1 : rd p (i : Int) < 2
    · refine ⟨2, ?_⟩
      have hf : apartP n p = false := apart_no n p (i + 1) (by rw [hsn]; exact decide_eq_false (by omega))
      unfold PChain.chantryref10_places.l0 PChain.chantryref10_places.j1
      rw [if_pos (by omega), if_pos (by omega), if_pos c1, hf]
      rfl
    · by_cases c2 : rd p (i : Int) ≥ n
      · refine ⟨2, ?_⟩
        have hf : apartP n p = false := apart_no n p (i + 1) (by rw [hsn]; exact decide_eq_false (by omega))
        unfold PChain.chantryref10_places.l0 PChain.chantryref10_places.j1
        rw [if_pos (by omega), if_pos (by omega), if_neg c1, decide_eq_true c2, hf]
        rfl
      · have hin : ∀ (e j : Nat), j + e = i → (∀ m : Nat, m < j → rd p (m : Int) ≠ rd p (i : Int)) → ∃ k, PChain.chantryref10_places.l1 k p n (i : Int) (j : Int) = some (apartP n p) := by
          intro e
          induction e with
          | zero =>
            intro j hj hm
            obtain rfl : j = i := by omega
            obtain ⟨k0, hk0⟩ := places_from n p hp d (j + 1) (by omega) (by
              rw [hsn]
              exact decide_eq_true ⟨by omega, by omega, fun hx => by
                obtain ⟨m, hm1, hm2⟩ := mem_rd p _ j (by omega) hx
                exact hm m hm1 hm2⟩)
            refine ⟨k0 + 1, ?_⟩
            unfold PChain.chantryref10_places.l1
            rw [if_neg (by omega), up1 j (by omega)]
            exact hk0
          | succ e ih =>
            intro j hj hm
            by_cases he : rd p (j : Int) = rd p (i : Int)
            · refine ⟨1, ?_⟩
              have hf : apartP n p = false := apart_no n p (i + 1) (by
                rw [hsn]
                exact decide_eq_false (fun hx => hx.2.2 (by rw [← he]; exact rd_mem p j i (by omega) (by omega))))
              unfold PChain.chantryref10_places.l1
              rw [if_pos (by omega), if_pos (by omega), if_pos (by omega), if_pos (by omega), if_pos (by omega), if_pos he, hf]
            · obtain ⟨k0, hk0⟩ := ih (j + 1) (by omega) (fun m hm' => by
                by_cases e' : m = j
                · rw [e']; exact he
                · exact hm m (by omega))
              refine ⟨k0 + 1, ?_⟩
              unfold PChain.chantryref10_places.l1
              rw [if_pos (by omega), if_pos (by omega), if_pos (by omega), if_pos (by omega), if_pos (by omega), if_neg he, up1 j (by omega)]
              exact hk0
        obtain ⟨k0, hk0⟩ := hin i 0 (by omega) (fun m hm => absurd hm (by omega))
        refine ⟨k0 + 2, ?_⟩
        unfold PChain.chantryref10_places.l0 PChain.chantryref10_places.j1
        rw [if_pos (by omega), if_pos (by omega), if_neg c1, decide_eq_false c2, if_neg (by simp)]
        exact hk0
theorem places_any {w : World} (n : Int) (A : Option Addr) (c : Nat) (p : List Int) (hC : Kd.C (Kd.int .i64) w A p.length p) (hc : p.length ≤ c) (hp : p.length ≤ 1000000) :
    Calls Tryz.prog 25 #[.slice A p.length c, .int .i64 n] w fun e w' => e = .returned (.bool (apartP n p)) ∧ Below w.heap.size w w' := by
  obtain ⟨k, hk⟩ := places_from n p hp p.length 0 (by omega) (by simp [apart_nil])
  exact (PChain.chantryref10_places.calls k A c p n _ w hC hc hk).mono (fun _ _ h => ⟨h.1, h.2.below⟩)
abbrev tagsX : List Nat := [79, 5, 39, 106]
theorem rd_tag {w : World} {base sb xb : Nat} {D : Dk} (h : RD w base sb xb D) : ∃ cs, w.heap[xb]? = some (.cells cs 79 (0, 0)) := by
  obtain ⟨vs, vw, h⟩ := h
  exact ⟨_, h.cells⟩
theorem rd_lt {w : World} {base sb xb : Nat} {D : Dk} (h : RD w base sb xb D) : xb < w.heap.size ∧ base ≤ xb := by
  obtain ⟨vs, vw, h⟩ := h
  exact ⟨blk_lt h.cells, h.xbase⟩
theorem rd_safe {w : World} {base sb xb : Nat} {D : Dk} (h : RD w base sb xb D) : ∃ A c, w.cell? ⟨xb, 0, none⟩ = some (.slice A D.safe.length c) := by
  obtain ⟨vs, vw, h⟩ := h
  obtain ⟨A, c, rfl⟩ := Kd.R_slice h.safe
  exact ⟨A, c, cell_blk h.cells⟩
theorem RQ_set {w : World} {base sb xb : Nat} {D : Dk} {S : Nat → Prop} (h : RQ w base sb xb D S) {ub T : Nat} {uc : Array Value} (hu : w.heap[ub]? = some (.cells uc T (0, 0))) (hT : T ∉ tagsX) (k : Nat) (v : Value) : RQ (w.setCell ⟨ub, k, none⟩ v) base sb xb D S := by
  obtain ⟨vs, vw, h, o⟩ := h
  simp only [List.mem_cons, List.not_mem_nil, or_false, not_or] at hT
  have hq1 : T ∉ 39 :: kB.E := fun hm => by
    have hm : T ∈ ([39, 5] : List Nat) := hm
    simp only [List.mem_cons, List.not_mem_nil, or_false] at hm
    rcases hm with e | e
    · exact hT.2.2.1 e
    · exact hT.2.1 e
  have hq2 : T ∉ 106 :: kW.E := fun hm => by
    have hm : T ∈ ([106, 5] : List Nat) := hm
    simp only [List.mem_cons, List.not_mem_nil, or_false] at hm
    rcases hm with e | e
    · exact hT.2.2.2 e
    · exact hT.2.1 e
  exact ⟨vs, vw, ⟨h.ok, h.xbase, by simpa [World.setCell] using h.slt, h.sown, h.wown, (Below.heap_setCell _ _ _ _ (tag_ne h.cells hu (Ne.symm hT.1))).trans h.cells, Kd.R_set h.safe hu (fun q hm e => hq1 (e ▸ hm)) k v, Kd.R_set h.waits hu (fun q hm e => hq2 (e ▸ hm)) k v⟩, o.up (by simp [World.setCell])⟩
theorem keep_fx {w w' : World} {base sb xb ub T : Nat} {D : Dk} {uc : Array Value} (h : RD w base sb xb D) (f : FX base xb w w') (hu : w.heap[ub]? = some (.cells uc T (0, 0))) (hT : T ∉ tagsX) : w'.heap[ub]? = some (.cells uc T (0, 0)) := by
  obtain ⟨_, h1⟩ := rd_tag h
  simp only [List.mem_cons, List.not_mem_nil, or_false, not_or] at hT
  exact (f.block ub (blk_lt hu) (fun e => tag_ne hu h1 hT.1 e) (fun c t fz hc e => by
    rw [hu] at hc
    cases hc
    rcases e.2 with e | e
    · exact hT.2.2.1 e
    · exact hT.2.2.2 e)).trans hu
theorem RQ_three {w : World} {base sb xb : Nat} {D : Dk} {S : Nat → Prop} (h : RQ w base sb xb D S) {ub T : Nat} {a0 a1 a2 : Value} (hu : w.heap[ub]? = some (.cells #[a0, a1, a2] T (0, 0))) (hT : T ∉ tagsX) (v0 v1 v2 : Value) : RQ (((w.setCell ⟨ub, 0, none⟩ v0).setCell ⟨ub, 1, none⟩ v1).setCell ⟨ub, 2, none⟩ v2) base sb xb D S := by
  have h1 := blk_set hu 0 v0
  have h2 := blk_set h1 1 v1
  exact RQ_set (RQ_set (RQ_set h hu hT 0 v0) h1 hT 1 v1) h2 hT 2 v2
structure WX (w0 w : World) (base sb xb : Nat) (E : Dk) (S : Nat → Prop) (V : Value) (xs : List Ce) : Prop where
  rq : RQ w base sb xb E S
  fx : FX base xb w0 w
  xlt : xb < w0.heap.size ∧ base ≤ xb
  out : w.heap[w0.heap.size]? = some (.cells #[.int .i64 0, .int .i64 0, .int .i64 0] 35 (0, 0))
  row : Kd.N PChain.k70 70 w w0.heap.size (fun k => k < base ∨ S k) V xs
theorem WX.step {w0 w w' : World} {base sb xb : Nat} {E : Dk} {S : Nat → Prop} {V : Value} {xs : List Ce} (h : WX w0 w base sb xb E S V xs) (f : Below w.heap.size w w') : WX w0 w' base sb xb E S V xs :=
  ⟨h.rq.below f, h.fx.trans (.of_below f), h.xlt, (f.block _ (blk_lt h.out)).trans h.out, Kd.N_below h.row f⟩
theorem WX.disk {w0 w w' : World} {base sb xb : Nat} {E E' : Dk} {S : Nat → Prop} {V : Value} {xs : List Ce} (h : WX w0 w base sb xb E S V xs) (p : RQ w' base sb xb E' S) (f : FX base xb w w') (g : KS S w w') : WX w0 w' base sb xb E' S V xs :=
  ⟨p, h.fx.trans f, h.xlt, keep_fx h.rq.rd f h.out (by decide), Kd.N_step h.row (fun k hk hlt => by
    rcases hk with hk | hk
    · exact f.block k hlt (by have := h.xlt; omega) (fun _ _ _ _ e => by omega)
    · exact g k hk)⟩
theorem zero_partX {w0 w w' : World} {base sb xb : Nat} {E : Dk} {S : Nat → Prop} {V : Value} {xs : List Ce} (h : WX w0 w base sb xb E S V xs) (hw : w' = ((w.setCell ⟨w0.heap.size, 0, none⟩ (.int .i64 0)).setCell ⟨w0.heap.size, 1, none⟩ (.int .i64 0)).setCell ⟨w0.heap.size, 2, none⟩ (.int .i64 0)) : RD w' base sb xb E ∧ FX base xb w0 w' ∧ w'.heap[w0.heap.size]? = some (.cells #[.int .i64 0, .int .i64 0, .int .i64 0] 35 (0, 0)) := by
  rw [hw]
  exact ⟨(RQ_three h.rq h.out (by decide) _ _ _).rd, Fr_then h.fx (three_below (Below.refl _ _) (Nat.le_refl _) _ _ _), three_set h.out _ _ _⟩
theorem F_low {w w' : World} {α : Type} {d : Kd α} {base n : Nat} {A : Option Addr} {xs : List α} (h : Kd.F d w (fun k => k < base) A n xs) (f : ∀ k, k < base → k < w.heap.size → w'.heap[k]? = w.heap[k]?) (hs : w.heap.size ≤ w'.heap.size) : Kd.F d w' (fun k => k < base) A n xs :=
  fun W' hW => h W' (fun k hk hlt => (hW k hk (Nat.lt_of_lt_of_le hlt hs)).trans (f k hk hlt))
theorem xcut_low {w : World} (base : Nat) (owner : Int) (AP : Option Addr) (cp : Nat) (places : List Int) (A : Option Addr) (c : Nat) (text : List Int) (hP : Kd.C (Kd.int .i64) w AP places.length places) (hT : Kd.F (Kd.int .u8) w (fun k => k < base) A text.length text) (hcp : places.length ≤ cp) (hct : text.length ≤ c) (hfew : text.length ≤ 100000) :
    Calls Tryz.prog 24 #[.int .i64 owner, .slice AP places.length cp, .slice A text.length c] w fun e w' => ∃ A' c', e = .returned (.tuple #[.slice A' (Cell.cutP owner places text).1.length c', .int .i64 (Cell.cutP owner places text).2]) ∧ (Cell.cutP owner places text).1.length ≤ c' ∧ Kd.N PChain.k70 70 w' w.heap.size (fun k => k < base ∨ w.heap.size ≤ k ∧ k < w'.heap.size) (.slice A' (Cell.cutP owner places text).1.length c') (Cell.cutP owner places text).1 ∧ Below w.heap.size w w' := by
  obtain ⟨k, hk⟩ := Cell.doc_cut owner places text hfew
  refine (PCellCuts.chantryref09_Cut.calls k owner AP cp places (fun k => k < base) A c text _ _ w hP hcp (Kd.V_mk hct hT) hk).mono ?_
  rintro e w1 ⟨v, rfl, hn, b⟩
  have hm := Kd.N_mono (ok' := fun k => k < base ∨ w.heap.size ≤ k ∧ k < w1.heap.size) (Kd.N_bound hn) (fun k hk => by
    rcases hk with ⟨h1 | h1, h2⟩
    · exact .inl h1
    · exact .inr ⟨h1, h2⟩)
  obtain ⟨A', c', rfl, hc', hC'⟩ := Kd.N_reads hm
  exact ⟨A', c', rfl, hc', hm, b⟩
set_option maxHeartbeats 32000000 in
set_option maxRecDepth 100000 in
theorem xcwrite_any {w : World} {base sb xb : Nat} {D : Dk} (h : RD w base sb xb D) (o : Int) (AP : Option Addr) (cp : Nat) (p : List Int) (A : Option Addr) (c : Nat) (t : List Int) (hP : ∀ x, FX base xb w x → Kd.C (Kd.int .i64) x AP p.length p) (hT : Kd.F (Kd.int .u8) w (fun k => k < base) A t.length t) (hcp : p.length ≤ cp) (hct : t.length ≤ c) (hb : ∀ x ∈ t, 0 ≤ x ∧ x ≤ 255) (ht : t.length ≤ 100000) (hp : p.length ≤ 1000) (hfew : D.waits.length ≤ 900000) :
    Calls Tryz.prog 10 #[.pointer (some ⟨xb, 0, none⟩), .int .i64 o, .slice AP p.length cp, .slice A t.length c] w fun e w' => e = .returned (.tuple #[partV (chW D o p t).2.1, .int .i64 (chW D o p t).2.2]) ∧ RD w' base sb xb (chW D o p t).1 ∧ FX base xb w w' := by
  have HPR := Aside0.mk hP
  have HTR := Aside0.mk hT
  have HBY := Aside0.mk hb
  have HFW := Aside0.mk hfew
  have HPL := Aside0.mk hp
  have HTL := Aside0.mk ht
  obtain ⟨w1, hw1⟩ : ∃ w1, w1 = w.alloc (.cells #[.int .i64 0, .int .i64 0, .int .i64 0] 35) := ⟨_, rfl⟩
  have b1 : Below w.heap.size w w1 := by rw [hw1]; exact (Below.refl _ _).alloc (Nat.le_refl _) _
  have HO1 := Aside0.mk (show w1.heap[w.heap.size]? = some (.cells #[.int .i64 0, .int .i64 0, .int .i64 0] 35 (0, 0)) by rw [hw1]; exact heap_alloc_new w _)
  have HRD := Aside0.mk h
  have HRL := Aside0.mk (rd_lt h)
  have HBS := Aside0.mk (show base ≤ w.heap.size by have := rd_lt h; omega)
  have HW1 := Aside0.mk hw1
  have HB1 := Aside0.mk b1
  obtain ⟨R, hR⟩ : ∃ R, R = chW D o p t := ⟨_, rfl⟩
  rw [← hR]
  have HR := Aside0.mk hR
  obtain ⟨PC, hPC⟩ : ∃ PC, PC = Cell.cutP o p t := ⟨_, rfl⟩
  have hcu := xcut_low (w := w1) base o AP cp p A c t (hP w1 (.of_below b1)) (F_low hT (fun k hk hlt => b1.block k hlt) b1.size) hcp hct ht
  rw [← hPC] at hcu
  have HPC := Aside0.mk hPC
  have HCU := Aside0.mk hcu
  clear hP hT hb hfew hp ht hR hPC hcu hw1 b1 h
  go_enter Tryz.func10, Tryz.ntmps10
  go_wp2_with fail
  rw [← HW1.out]
  refine HCU.out.mono ?_
  clear HCU
  rintro r w2 ⟨A2, c2, rfl, hc2, hn2, b2⟩
  have HN2 := Aside0.mk (Kd.N_lower (base' := w.heap.size) hn2 HB1.out.size)
  have HB2 := Aside0.mk (HB1.out.trans (b2.mono HB1.out.size))
  obtain ⟨S, hS⟩ : ∃ S : Nat → Prop, S = (fun k => w1.heap.size ≤ k ∧ k < w2.heap.size) := ⟨_, rfl⟩
  have HWS2 := Aside0.mk (show WX w w2 base sb xb D S (.slice A2 PC.1.length c2) PC.1 from by
    obtain ⟨vs, vw, hx⟩ := HRD.out
    have hw1s := HB1.out.size
    refine ⟨⟨vs, vw, hx.below HB2.out, ⟨fun k hk => by rw [hS] at hk; exact hk.2, fun k hk hk2 => ?_, fun hk2 => ?_⟩⟩, .of_below HB2.out, HRL.out, (b2.block _ (blk_lt HO1.out)).trans HO1.out, by rw [hS]; exact HN2.out⟩
    · rw [hS] at hk2
      have := Kd.R_lt hx.waits k hk
      omega
    · rw [hS] at hk2
      have := HRL.out
      omega)
  clear hn2 b2 HN2 HB1 HO1 HRD hS
  obtain ⟨ec, hec⟩ : ∃ ec, ec = PC.2 := ⟨_, rfl⟩
  have HEC := Aside0.mk hec
  rw [← hec]
  clear hec
  by_cases he : ec ≠ 0
  · have HRV := Aside0.mk (show R = (D, (0, 0, 0), ec) by rw [HR.out]; unfold chW; rw [← HPC.out, ← HEC.out, if_pos he])
    have hou := HWS2.out.out
    obtain ⟨⟨k0, k1, k2⟩, f0, f1, f2⟩ := cells3 hou
    clear hou
    go_wp2_with fail
    obtain ⟨w3, hw3⟩ : ∃ w3, w3 = ((w2.setCell ⟨w.heap.size, 0, none⟩ (.int .i64 0)).setCell ⟨w.heap.size, 1, none⟩ (.int .i64 0)).setCell ⟨w.heap.size, 2, none⟩ (.int .i64 0) := ⟨_, rfl⟩
    obtain ⟨hq1, hq2, hq3⟩ := zero_partX HWS2.out hw3
    rw [← hw3]
    refine bodyPost_ret (results_ct rfl _ _ w.heap.size 35 #[.int .i64 0, .int .i64 0, .int .i64 0] (0, 0) _ rfl hq3 Tryz.underlying35 rfl (by kernel_rfl)) rfl ?_
    exact ⟨by rw [HRV.out]; rfl, by rw [HRV.out]; exact hq1, hq2⟩
  · have he0 : ec = 0 := Classical.byContradiction he
    subst he0
    clear he
    obtain ⟨hc1, hoks, hpos, hneed⟩ := cut_ok (o := o) (p := p) (t := t) (by rw [← HPC.out]; exact HEC.out.symm)
    have HCS := Aside0.mk (show PC.1 = Cell.cellsAt o p t p.length by rw [HPC.out]; exact hc1)
    have HLC := Aside0.mk (show PC.1.length = p.length by rw [HPC.out, hc1, Cell.cellsAt_len])
    have HRV := Aside0.mk (show R = if apartP D.safe.length p = true then (if (wrN o p t D p.length).2 ≠ 0 then ((wrN o p t D p.length).1, (0, 0, 0), (wrN o p t D p.length).2) else ((wrN o p t D p.length).1, (p.getD 0 0, (t.length : Int), o), 0)) else (D, (0, 0, 0), 1) by rw [HR.out]; unfold chW; rw [← HPC.out, ← HEC.out, if_neg (by simp)])
    have HOKS := Aside0.mk hoks
    have HPOS := Aside0.mk hpos
    clear hc1 hoks hpos hneed HR HEC
    rw [HCS.out, Cell.cellsAt_len] at HWS2 hc2 ⊢
    obtain ⟨As, cs, hsf⟩ := rd_safe HWS2.out.rq.rd
    obtain ⟨sn, hn⟩ : ∃ sn : Nat, sn = D.safe.length := ⟨_, rfl⟩
    have hap := places_any (w := w2) (sn : Int) AP cp p (HPR.out _ HWS2.out.fx) hcp (by have := HPL.out; omega)
    rw [← hn] at hsf HRV
    have HAP := Aside0.mk hap
    clear hap hn
    go_wp2_with fail
    refine HAP.out.mono ?_
    clear HAP
    rintro r w4 ⟨rfl, b4⟩
    have HWS4 := Aside0.mk (HWS2.out.step b4)
    have HB4 := Aside0.mk (HB2.out.trans (b4.mono HB2.out.size))
    clear b4 HWS2 HB2
    obtain ⟨ap, hap⟩ : ∃ ap, ap = apartP (sn : Int) p := ⟨_, rfl⟩
    rw [← hap] at HRV ⊢
    clear hap
    cases ap with
    | false =>
      have HRW := Aside0.mk (show R = (D, (0, 0, 0), 1) by rw [HRV.out, if_neg (by simp)])
      have hou := HWS4.out.out
      obtain ⟨⟨k0, k1, k2⟩, f0, f1, f2⟩ := cells3 hou
      clear hou
      go_wp2_with fail
      obtain ⟨w5, hw5⟩ : ∃ w5, w5 = ((w4.setCell ⟨w.heap.size, 0, none⟩ (.int .i64 0)).setCell ⟨w.heap.size, 1, none⟩ (.int .i64 0)).setCell ⟨w.heap.size, 2, none⟩ (.int .i64 0) := ⟨_, rfl⟩
      obtain ⟨hq1, hq2, hq3⟩ := zero_partX HWS4.out hw5
      rw [← hw5]
      refine bodyPost_ret (results_ct rfl _ _ w.heap.size 35 #[.int .i64 0, .int .i64 0, .int .i64 0] (0, 0) _ rfl hq3 Tryz.underlying35 rfl (by kernel_rfl)) rfl ?_
      exact ⟨by rw [HRW.out]; rfl, by rw [HRW.out]; exact hq1, hq2⟩
    | true =>
      have HRW := Aside0.mk (show R = if (wrN o p t D p.length).2 ≠ 0 then ((wrN o p t D p.length).1, (0, 0, 0), (wrN o p t D p.length).2) else ((wrN o p t D p.length).1, (p.getD 0 0, (t.length : Int), o), 0) by rw [HRV.out, if_pos rfl])
      clear HRV
      obtain ⟨xs, hxs⟩ : ∃ xs, xs = Cell.cellsAt o p t p.length := ⟨_, rfl⟩
      rw [← hxs] at HWS4
      have HXS := Aside0.mk hxs
      clear hxs
      go_wp2_with fail
      go_loopg [12] p.length (fun gk v39 wr => ∃ (i : Nat) (E : Dk), Aside0 (i + gk = p.length) ∧ v39 = .int .i64 i ∧ Aside0 (wrN o p t D i = (E, 0)) ∧ Aside0 (WX w wr base sb xb E S (.slice A2 p.length c2) xs))
      case atStart => exact ⟨0, D, ⟨by omega⟩, rfl, ⟨rfl⟩, HWS4⟩
      case round =>
        clear HWS4
        obtain ⟨i, E, HI, rfl, HE, HW⟩ := hrel
        by_cases hi : i < p.length
        · have hii : (i : Int) < (p.length : Int) := by omega
          obtain ⟨hl1, hl2, hKC⟩ := Kd.N_reads' HW.out.row
          have hxl : xs.length = p.length := by rw [HXS.out, Cell.cellsAt_len]
          rw [hxl] at hKC
          obtain ⟨ad, A3, c3, rfl, h0, h1, h2, h3, l3, g3⟩ := PChain.at_T70 hKC (i : Int) (by omega) (by omega)
          rw [Int.toNat_natCast, HXS.out, Cell.cellsAt_get o p t p.length i hi] at h0 h1 h2 h3
          rw [HXS.out, Cell.cellsAt_get o p t p.length i hi] at l3 g3
          clear hl1 hl2 hKC hxl
          obtain ⟨nx, hnx⟩ : ∃ nx, nx = Cell.nextOf p i := ⟨_, rfl⟩
          obtain ⟨d, hd⟩ : ∃ d, d = Cell.pieceOf t i := ⟨_, rfl⟩
          have hbd : ∀ y ∈ d, 0 ≤ y ∧ y ≤ 255 := fun y hy => by rw [hd] at hy; exact HBY.out y (List.mem_of_mem_drop (List.mem_of_mem_take hy))
          have HBL := Aside0.mk (show blkC o p t i = (Cell.putP o i nx d).1 by rw [hnx, hd]; rfl)
          simp only [Cell.cellOf] at h0 h1 h2 h3 l3 g3
          rw [← hnx] at h2
          rw [← hd] at h3 l3 g3
          have HBD := Aside0.mk hbd
          have HG3 := Aside0.mk g3
          clear hnx hd hbd g3
          have hpu := Cell.xput_any (w := wr) o i nx A3 c3 d HG3.out l3 HBD.out
          obtain ⟨PB, hPB⟩ : ∃ PB, PB = Cell.putP o i nx d := ⟨_, rfl⟩
          rw [← hPB] at hpu HBL
          have HPU := Aside0.mk hpu
          have HPBB := Aside0.mk (show ∀ y ∈ PB.1, 0 ≤ y ∧ y ≤ 255 from Cell.put_byte HBD.out hPB)
          clear hpu hPB
          go_wp2_with fail
          refine HPU.out.mono ?_
          clear HPU
          rintro r w6 ⟨v6, rfl, hr6, b6⟩
          have HWS6 := Aside0.mk (HW.out.step b6)
          have HR6 := Aside0.mk hr6
          obtain ⟨A6, c6, rfl⟩ := Kd.R_slice hr6
          clear b6 hr6 h0 h1 h2 h3 HW HG3
          obtain ⟨ap, hap, hcp6⟩ := Kd.at_int (HPR.out _ HWS6.out.fx) (i : Int) (by omega) (by omega)
          subst hap
          rw [Int.toNat_natCast] at hcp6
          obtain ⟨pl, hpl⟩ : ∃ pl, pl = rd p i := ⟨_, rfl⟩
          have HPLC := Aside0.mk (show p.getD i 0 = pl by rw [hpl]; rfl)
          rw [← hpl] at hcp6
          clear hpl
          obtain ⟨W, hW⟩ : ∃ W, W = writeD E pl PB.1 := ⟨_, rfl⟩
          have hwt : E.waits.length ≤ D.waits.length + i := by have q := wr_waits o p t D i; rw [HE.out] at q; exact q
          have hwr := Disk.xwriteQ_uni HWS6.out.rq pl A6 c6 PB.1 HPBB.out (fun y hy => (Kd.R_reads' (Kd.R_below HR6.out hy)).2.2) (by have := HFW.out; have := HPL.out; omega)
          rw [← hW] at hwr
          have HWR := Aside0.mk hwr
          have HNX := Aside0.mk (show wrN o p t D (i + 1) = W by
            show (if (wrN o p t D i).2 ≠ 0 then wrN o p t D i else writeD (wrN o p t D i).1 (p.getD i 0) (blkC o p t i)) = W
            rw [HE.out, if_neg (by simp), HPLC.out, HBL.out, hW])
          clear hW hwt hwr
          go_wp2_with fail
          refine HWR.out.mono ?_
          clear HWR
          rintro r w7 ⟨rfl, hp7, hf7, hk7⟩
          have HWS7 := Aside0.mk (HWS6.out.disk hp7 hf7 hk7)
          clear hp7 hf7 hk7 HWS6 HR6 hcp6
          obtain ⟨e, he⟩ : ∃ e, e = W.2 := ⟨_, rfl⟩
          have HEW := Aside0.mk he
          rw [← he]
          clear he
          by_cases he0 : e ≠ 0
          · have HRZ := Aside0.mk (show R = (W.1, (0, 0, 0), e) by
              rw [HRW.out, wr_stop o p t D (i + 1) (by rw [HNX.out, ← HEW.out]; exact he0) p.length (by omega), HNX.out, ← HEW.out, if_pos he0])
            have hou := HWS7.out.out
            obtain ⟨⟨k0, k1, k2⟩, f0, f1, f2⟩ := cells3 hou
            clear hou
            go_wp2_with fail
            obtain ⟨w8, hw8⟩ : ∃ w8, w8 = ((w7.setCell ⟨w.heap.size, 0, none⟩ (.int .i64 0)).setCell ⟨w.heap.size, 1, none⟩ (.int .i64 0)).setCell ⟨w.heap.size, 2, none⟩ (.int .i64 0) := ⟨_, rfl⟩
            obtain ⟨hq1, hq2, hq3⟩ := zero_partX HWS7.out hw8
            rw [← hw8]
            refine bodyPost_ret (results_ct rfl _ _ w.heap.size 35 #[.int .i64 0, .int .i64 0, .int .i64 0] (0, 0) _ rfl hq3 Tryz.underlying35 rfl (by kernel_rfl)) rfl ?_
            exact ⟨by rw [HRZ.out]; rfl, by rw [HRZ.out]; exact hq1, hq2⟩
          · have he1 : e = 0 := Classical.byContradiction he0
            subst he1
            clear he0
            have HE7 := Aside0.mk (show wrN o p t D (i + 1) = (W.1, 0) by rw [HNX.out, HEW.out])
            go_wp2_with fail
            go_roundg (p.length - (i + 1))
            case measure => have := HI.out; omega
            case rel => exact ⟨i + 1, W.1, ⟨by have := HI.out; omega⟩, congrArg (Value.int .i64) (up1 i (by have := HPL.out; omega)), HE7, HWS7⟩
        · have hii : ¬ ((i : Int) < (p.length : Int)) := by omega
          have hiv : i = p.length := by have := HI.out; omega
          subst hiv
          obtain ⟨ap, hap, hcp6⟩ := Kd.at_int (HPR.out _ HW.out.fx) 0 (by omega) (by have := HPOS.out; omega)
          subst hap
          rw [show Int.toNat 0 = 0 from rfl, show ap.add 0 = ap from by simp [Addr.add]] at hcp6
          obtain ⟨pl, hpl⟩ : ∃ pl, pl = rd p 0 := ⟨_, rfl⟩
          have HPLC := Aside0.mk (show p.getD 0 0 = pl by rw [hpl]; rfl)
          rw [← hpl] at hcp6
          clear hpl
          have HRZ := Aside0.mk (show R = (E, (pl, (t.length : Int), o), 0) by rw [HRW.out, HE.out, if_neg (by simp), HPLC.out])
          have hou := HW.out.out
          obtain ⟨⟨k0, k1, k2⟩, f0, f1, f2⟩ := cells3 hou
          have hp0 : (0 : Int) < (p.length : Int) := by have := HPOS.out; omega
          clear hou
          go_wp2_with fail
          refine bodyPost_ret (results_ct rfl _ _ w.heap.size 35 #[.int .i64 pl, .int .i64 t.length, .int .i64 o] (0, 0) _ rfl (three_set HW.out.out _ _ _) Tryz.underlying35 rfl (by kernel_rfl)) rfl ?_
          exact ⟨by rw [HRZ.out]; rfl, by rw [HRZ.out]; exact (RQ_three HW.out.rq HW.out.out (by decide) _ _ _).rd, Fr_then HW.out.fx (three_below (Below.refl _ _) (Nat.le_refl _) _ _ _)⟩
end Ch
end Go.Proofs.YtclneeamemofoaaGreat
end
