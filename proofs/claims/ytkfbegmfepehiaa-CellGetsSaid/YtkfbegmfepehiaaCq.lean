/- Walks: the document's Get -/
import Derived.Test.YtkfbegmfepehiaaCp
import Derived.Test.YtkfbegmfepehiaaKw
import Derived.Test.YtkfbegmfepehiaaPCellGetsx6
import Derived.Below
import Derived.Lib.Hide
import Derived.OwnWalk
import Derived.WalkKit
import Derived.KernelRfl
import Derived.RowKit3
import Derived.Deep.LoopGhost
import Derived.Deep.QuietTactic
import Derived.BigQuiet
import Derived.WideLaws
import Derived.Great.BuildSlice
import Derived.Outline
import Derived.Deep.DeepCutAuto
import Derived.WalkSpells
import Derived.RegionTactic
import Derived.BigRegion
import Derived.WalkLawsBesides
import Derived.IntWalk
import Derived.Deep.Slices
import Derived.Lib.AppendZerosOnto
namespace Go.Proofs.Ytkfbegmfepehiaa
set_option linter.unusedVariables false
set_option linter.unusedSimpArgs false
open Go.RowKit Go.Proofs.YtkfbegmfepehiaaW.PrintWords Go.Proofs.YtkfbegmfepehiaaW.PrintLast Go.Proofs.YtkfbegmfepehiaaW.PrintMore
namespace Cell
open Go.Num Go.Crc PCellGets

theorem nilC (x : World) : Kd.C (Kd.int .u8) x none 0 [] := ⟨rfl, by decide, fun h => absurd h (by decide)⟩
theorem C_but {w w2 : World} {b t n : Nat} {cs : Array Value} {A : Option Addr} {xs : List Int} (h : Kd.C (Kd.int .u8) w A n xs) (hb : w.heap[b]? = some (.cells cs t (0, 0))) (hne : ∀ (k : Nat) (v : Int), cs[k]? ≠ some (.int .u8 v)) (hf : ∀ k, k ≠ b → w2.heap[k]? = w.heap[k]?) : Kd.C (Kd.int .u8) w2 A n xs := by
  have hn : xs.length = n := h.1
  by_cases h0 : 0 < n
  · obtain ⟨a, rfl, _⟩ := h.2.2 h0
    refine Kd.C_of_reads (enc := fun x => Value.int .u8 x) (d := (0:Int)) (h1 := fun _ => rfl) ⟨hn, h.2.1, fun _ => ⟨_, rfl, fun j hj => ?_⟩⟩
    obtain ⟨a', e, hc⟩ := Kd.at_int h (j : Int) (by omega) (by omega)
    cases e
    rw [Int.toNat_natCast] at hc
    have hbk : (a.add j).block ≠ b := by
      intro e
      unfold World.cell? at hc
      rw [e, hb] at hc
      simp only at hc
      split at hc
      · cases hc
      · exact hne _ _ hc
    unfold World.cell? at hc ⊢
    rw [hf _ hbk]
    simpa [rd] using hc
  · obtain rfl : n = 0 := by omega
    exact ⟨hn, h.2.1, fun h => absurd h h0⟩
theorem four_but {w : World} {b : Nat} (v0 v1 v2 v3 : Value) : ∀ k, k ≠ b → ((((w.setCell ⟨b, 0, none⟩ v0).setCell ⟨b, 1, none⟩ v1).setCell ⟨b, 2, none⟩ v2).setCell ⟨b, 3, none⟩ v3).heap[k]? = w.heap[k]? := fun k hk => by
  rw [Below.heap_setCell _ _ _ _ hk, Below.heap_setCell _ _ _ _ hk, Below.heap_setCell _ _ _ _ hk, Below.heap_setCell _ _ _ _ hk]
theorem zero_not8 (k : Nat) (v : Int) : (#[Value.int .i64 0, .int .i64 0, .int .i64 0, .slice none 0 0] : Array Value)[k]? ≠ some (.int .u8 v) := by
  intro h
  have h' : ([Value.int .i64 0, .int .i64 0, .int .i64 0, .slice none 0 0] : List Value)[k]? = some (.int .u8 v) := by simpa using h
  have := List.mem_of_getElem? h'
  simp at this
theorem below_up {x y : World} {k : Nat} (h : Below k x y) (hk : k ≤ x.heap.size := by omega) : Below k x y := h
theorem put_byte {o n x : Int} {d : List Int} {P : List Int × Int} (hb : ∀ y ∈ d, 0 ≤ y ∧ y ≤ 255) (h : P = putP o n x d) : ∀ y ∈ P.1, 0 ≤ y ∧ y ≤ 255 := by
  subst h
  unfold putP
  split
  · exact seal_byte (bodyC_byte _ _ _ _ hb)
  · intro y hy; cases hy
theorem xunfix_any {w : World} (A : Option Addr) (c : Nat) (l : List Int) (n : Nat) (hn : l.length = n) (hC : Kd.C (Kd.int .u8) w A n l) (hc : n ≤ c) (hb : ∀ x ∈ l, 0 ≤ x ∧ x ≤ 255) :
    Calls Try.prog 48 #[.slice A n c] w fun e w' => e = .returned (.tuple #[.int .i64 (unfixP l).1, .int .i64 (unfixP l).2]) ∧ Below w.heap.size w w' := by
  subst hn
  exact (chantryref01_Unfix.calls 7 A c l _ _ w hC hc (xunfix_plain 0 l hb)).mono (fun _ _ h => ⟨h.1, h.2.below⟩)
/-- What the document's Get keeps. -/
structure GX (w0 w : World) (A : Option Addr) (c : Nat) (own : List Int) : Prop where
  below : Below w0.heap.size w0 w
  zero : w.heap[w0.heap.size]? = some (.cells #[.int .i64 0, .int .i64 0, .int .i64 0, .slice none 0 0] 24 (0, 0))
  row : ∀ x, Below w.heap.size w x → Kd.C (Kd.int .u8) x A own.length own
theorem GX.step {w0 w w' : World} {A : Option Addr} {c : Nat} {own : List Int} (h : GX w0 w A c own) (f : Below w.heap.size w w') : GX w0 w' A c own :=
  ⟨h.below.trans (f.mono h.below.size), (f.block _ (blk_lt h.zero)).trans h.zero, fun x hx => h.row x (f.trans (hx.mono f.size))⟩

set_option maxHeartbeats 16000000 in
set_option maxRecDepth 100000 in
theorem xget_no {w : World} (A : Option Addr) (c : Nat) (l : List Int) (hC : Kd.C (Kd.int .u8) w A l.length l) (hb : ∀ y ∈ l, 0 ≤ y ∧ y ≤ 255) (hc : l.length ≤ c) (hl : l.length ≤ 200000) (hno : l.length ≠ 256 ∨ (openP l).2 ≠ 0) :
    Calls Try.prog 15 #[.slice A l.length c] w fun e w' => ∃ A' c', e = .returned (.tuple #[.agg #[.int .i64 (getP l).1.o, .int .i64 (getP l).1.n, .int .i64 (getP l).1.x, .slice A' (getP l).1.d.length c'], .int .i64 (getP l).2]) ∧ (getP l).1.d.length ≤ c' ∧ (∀ x, Below w'.heap.size w' x → Kd.C (Kd.int .u8) x A' (getP l).1.d.length (getP l).1.d) ∧ Below w.heap.size w w' := by
  have HC := Aside0.mk hC
  have HBY := Aside0.mk hb
  clear hC hb
  obtain ⟨r, hr⟩ : ∃ r, r = getP l := ⟨_, rfl⟩
  rw [← hr]
  by_cases h256 : l.length ≠ 256
  · have HR5 := Aside0.mk (show r = (zeroC, 11) by rw [hr]; unfold getP; rw [if_pos h256])
    have hne : ((l.length : Int) != 256) = true := by simp; omega
    clear hr hno
    go_enter Try.func15, Try.ntmps15
    go_wp2_with fail
    refine bodyPost_ret (results_ct rfl _ _ w.heap.size 24 #[.int .i64 0, .int .i64 0, .int .i64 0, .slice none 0 0] (0, 0) _ rfl (heap_alloc_new w _) Try.underlying24 rfl (by kernel_rfl)) rfl ?_
    exact ⟨none, 0, by rw [HR5.out]; rfl, by rw [HR5.out]; exact Nat.le_refl _, fun x hx => by rw [HR5.out]; exact nilC x, (Below.refl _ _).alloc (Nat.le_refl _) _⟩
  · have h2 : l.length = 256 := by omega
    have h12 : (openP l).2 = 12 := by
      rcases open_err l with h | h
      · rcases hno with hn | hn
        · exact absurd h2 hn
        · exact absurd h hn
      · exact h
    have HR5 := Aside0.mk (show r = (zeroC, 12) by rw [hr]; unfold getP; rw [if_neg h256, if_pos (by rw [h12]; decide), h12])
    have HL := Aside0.mk h2
    have H12 := Aside0.mk h12
    rw [h2] at hc hl ⊢
    clear hr hno h256 h2 h12
    go_enter Try.func15, Try.ntmps15
    go_wp2_with fail
    obtain ⟨W, hW⟩ : ∃ W, W = w.alloc (.cells #[.int .i64 0, .int .i64 0, .int .i64 0, .slice none 0 0] 24) := ⟨_, rfl⟩
    have HB0 := Aside0.mk (show Below w.heap.size w W by rw [hW]; exact (Below.refl _ _).alloc (Nat.le_refl _) _)
    have HBX := Aside0.mk (show W.heap[w.heap.size]? = some (.cells #[.int .i64 0, .int .i64 0, .int .i64 0, .slice none 0 0] 24 (0, 0)) by rw [hW]; exact heap_alloc_new w _)
    rw [← hW]
    clear hW
    have hop := xopen_any A c l W (Kd.C_below HC.out HB0.out) HBY.out (by rw [HL.out]; omega) (by rw [HL.out]; omega)
    rw [HL.out, H12.out] at hop
    refine hop.mono ?_
    clear hop
    rintro e w1 ⟨A1, c1, rfl, _, _, b1⟩
    have HB1 := Aside0.mk (HB0.out.trans (b1.mono HB0.out.size))
    have HX1 := Aside0.mk ((b1.block _ (blk_lt HBX.out)).trans HBX.out)
    clear b1
    have z0 : w1.cell? ⟨w.heap.size, 0, none⟩ = some (.int .i64 0) := cell_blk HX1.out
    have z1 : w1.cell? ⟨w.heap.size, 1, none⟩ = some (.int .i64 0) := cell_blk HX1.out
    have z2 : w1.cell? ⟨w.heap.size, 2, none⟩ = some (.int .i64 0) := cell_blk HX1.out
    have z3 : w1.cell? ⟨w.heap.size, 3, none⟩ = some (.slice none 0 0) := cell_blk HX1.out
    have f0 : w1.frozen? ⟨w.heap.size, 0, none⟩ = false := frozen_blk HX1.out
    have f1 : w1.frozen? ⟨w.heap.size, 1, none⟩ = false := frozen_blk HX1.out
    have f2 : w1.frozen? ⟨w.heap.size, 2, none⟩ = false := frozen_blk HX1.out
    have f3 : w1.frozen? ⟨w.heap.size, 3, none⟩ = false := frozen_blk HX1.out
    go_wp2_with fail
    refine bodyPost_ret (results_ct rfl _ _ w.heap.size 24 #[.int .i64 0, .int .i64 0, .int .i64 0, .slice none 0 0] (0, 0) _ rfl (four_set HX1.out _ _ _ _) Try.underlying24 rfl (by kernel_rfl)) rfl ?_
    exact ⟨none, 0, by rw [HR5.out]; rfl, by rw [HR5.out]; exact Nat.le_refl _, fun x hx => by rw [HR5.out]; exact nilC x, four_below HB1.out (Nat.le_refl _) _ _ _ _⟩

set_option maxHeartbeats 16000000 in
set_option maxRecDepth 100000 in
theorem xget_yes {w : World} (A : Option Addr) (c : Nat) (l : List Int) (hC : Kd.C (Kd.int .u8) w A l.length l) (hb : ∀ y ∈ l, 0 ≤ y ∧ y ≤ 255) (hc : l.length ≤ c) (h256 : l.length = 256) (h0 : (openP l).2 = 0) :
    Calls Try.prog 15 #[.slice A l.length c] w fun e w' => ∃ A' c', e = .returned (.tuple #[.agg #[.int .i64 (getP l).1.o, .int .i64 (getP l).1.n, .int .i64 (getP l).1.x, .slice A' (getP l).1.d.length c'], .int .i64 (getP l).2]) ∧ (getP l).1.d.length ≤ c' ∧ (∀ x, Below w'.heap.size w' x → Kd.C (Kd.int .u8) x A' (getP l).1.d.length (getP l).1.d) ∧ Below w.heap.size w w' := by
  have HC := Aside0.mk hC
  have HBY := Aside0.mk hb
  have HL := Aside0.mk h256
  have H0 := Aside0.mk h0
  have HSE := Aside0.mk (open_ok l h0)
  obtain ⟨own, hown⟩ : ∃ own, own = (openP l).1 := ⟨_, rfl⟩
  have hlo : own.length = 252 := by rw [hown]; exact own_len h256 h0
  have hob : ∀ y ∈ own, 0 ≤ y ∧ y ≤ 255 := by rw [hown]; exact own_byte hb h0
  have HLO := Aside0.mk hlo
  have HOB := Aside0.mk hob
  obtain ⟨r, hr⟩ : ∃ r, r = getP l := ⟨_, rfl⟩
  rw [← hr]
  have HQ := Aside0.mk (show r = if okG own = true then (rawC own, 0) else (zeroC, 5) by rw [hr, hown]; unfold getP; rw [if_neg (by omega), if_neg (by omega)])
  have HOWN := Aside0.mk hown
  have HIFF := Aside0.mk (okG_iff own hlo hob)
  obtain ⟨o, ho⟩ : ∃ o, o = (unfixP (own.take 4)).1 := ⟨_, rfl⟩
  obtain ⟨n, hn⟩ : ∃ o, o = (unfixP ((own.drop 4).take 2)).1 := ⟨_, rfl⟩
  obtain ⟨x, hx⟩ : ∃ o, o = (unfixP ((own.drop 6).take 2)).1 := ⟨_, rfl⟩
  have hsz := unfix2 ((own.drop 8).take 2) (by rw [List.length_take, List.length_drop, hlo]; omega) (take_byte hob 8 2)
  obtain ⟨sn, hs⟩ : ∃ sn : Nat, (sn : Int) = (unfixP ((own.drop 8).take 2)).1 := ⟨(unB ((own.drop 8).take 2)).toNat, by rw [hsz.1]; omega⟩
  have hs6 : sn ≤ 65535 := by rw [hsz.1] at hs; omega
  have Ho := Aside0.mk ho
  have Hn := Aside0.mk hn
  have Hx := Aside0.mk hx
  have Hs := Aside0.mk hs
  have HSZ := Aside0.mk (show sizeC own = (sn : Int) from hs.symm)
  have HRAW := Aside0.mk (show rawC own = ⟨o, n, x, (own.drop 10).take sn⟩ by unfold rawC; rw [← ho, ← hn, ← hx, show sizeC own = (sn : Int) from hs.symm, Int.toNat_natCast])
  clear hC hb h0 hown hlo hob hr ho hn hx hsz hs
  rw [h256] at hc ⊢
  clear h256
  go_enter Try.func15, Try.ntmps15
  go_wp2_with fail
  obtain ⟨W, hW⟩ : ∃ W, W = w.alloc (.cells #[.int .i64 0, .int .i64 0, .int .i64 0, .slice none 0 0] 24) := ⟨_, rfl⟩
  have HB0 := Aside0.mk (show Below w.heap.size w W by rw [hW]; exact (Below.refl _ _).alloc (Nat.le_refl _) _)
  have HBX := Aside0.mk (show W.heap[w.heap.size]? = some (.cells #[.int .i64 0, .int .i64 0, .int .i64 0, .slice none 0 0] 24 (0, 0)) by rw [hW]; exact heap_alloc_new w _)
  rw [← hW]
  clear hW
  have hop := xopen_any A c l W (Kd.C_below HC.out HB0.out) HBY.out (by rw [HL.out]; omega) (by rw [HL.out]; omega)
  rw [HL.out, H0.out, ← HOWN.out, HLO.out] at hop
  refine hop.mono ?_
  clear hop
  rintro e w1 ⟨A1, c1, rfl, hc1, hrow, b1⟩
  obtain ⟨a, rfl⟩ : ∃ a, A1 = some a := by obtain ⟨a, ha, _⟩ := (hrow _ (Below.refl _ _)).2.2 (by omega); exact ⟨a, ha⟩
  have HG := Aside0.mk (show GX w w1 (some a) c1 own from ⟨HB0.out.trans (b1.mono HB0.out.size), (b1.block _ (blk_lt HBX.out)).trans HBX.out, fun x hx => by rw [HLO.out]; exact hrow x (below_steps b1 hx)⟩)
  clear hrow b1
  go_wp2_with fail
  have hu := xunfix_any (some a) (c1 - 0) (own.take 4) 4 (by rw [List.length_take, HLO.out]; omega) (take_C (HG.out.row _ (Below.refl _ _)) 4 (by rw [HLO.out]; omega)) (by omega) (fun x hx => HOB.out x (List.mem_of_mem_take hx))
  rw [← Ho.out, Nat.sub_zero] at hu
  obtain ⟨q3, hq⟩ : ∃ q, q = (unfixP (own.take 4)).2 := ⟨_, rfl⟩
  rw [← hq] at hu
  have HQ3 := Aside0.mk hq
  refine hu.mono ?_
  clear hu hq
  rintro e w3 ⟨rfl, b⟩
  have hg := HG.out.step b
  clear HG b
  have HG := Aside0.mk hg
  clear hg
  go_wp2_with fail
  have hu := xunfix_any (some (a.add 4)) (c1 - 4) ((own.drop 4).take 2) 2 (by rw [List.length_take, List.length_drop, HLO.out]; omega) (mid_C (HG.out.row _ (Below.refl _ _)) 4 2 (by rw [HLO.out]; omega)) (by omega) (take_byte HOB.out 4 2)
  rw [← Hn.out] at hu
  obtain ⟨q4, hq⟩ : ∃ q, q = (unfixP ((own.drop 4).take 2)).2 := ⟨_, rfl⟩
  rw [← hq] at hu
  
  refine hu.mono ?_
  clear hu hq
  rintro e w4 ⟨rfl, b⟩
  have hg := HG.out.step b
  clear HG b
  have HG := Aside0.mk hg
  clear hg
  go_wp2_with fail
  have hu := xunfix_any (some (a.add 6)) (c1 - 6) ((own.drop 6).take 2) 2 (by rw [List.length_take, List.length_drop, HLO.out]; omega) (mid_C (HG.out.row _ (Below.refl _ _)) 6 2 (by rw [HLO.out]; omega)) (by omega) (take_byte HOB.out 6 2)
  rw [← Hx.out] at hu
  obtain ⟨q5, hq⟩ : ∃ q, q = (unfixP ((own.drop 6).take 2)).2 := ⟨_, rfl⟩
  rw [← hq] at hu
  
  refine hu.mono ?_
  clear hu hq
  rintro e w5 ⟨rfl, b⟩
  have hg := HG.out.step b
  clear HG b
  have HG := Aside0.mk hg
  clear hg
  go_wp2_with fail
  have hu := xunfix_any (some (a.add 8)) (c1 - 8) ((own.drop 8).take 2) 2 (by rw [List.length_take, List.length_drop, HLO.out]; omega) (mid_C (HG.out.row _ (Below.refl _ _)) 8 2 (by rw [HLO.out]; omega)) (by omega) (take_byte HOB.out 8 2)
  rw [← Hs.out] at hu
  obtain ⟨q6, hq⟩ : ∃ q, q = (unfixP ((own.drop 8).take 2)).2 := ⟨_, rfl⟩
  rw [← hq] at hu
  
  refine hu.mono ?_
  clear hu hq
  rintro e w6 ⟨rfl, b⟩
  have hg := HG.out.step b
  clear HG b
  have HG := Aside0.mk hg
  clear hg
  have ERR : ¬ okG own = true → r = (zeroC, 5) := fun h => by rw [HQ.out, if_neg h]
  by_cases h3 : q3 = 0
  · subst h3
    by_cases hk : sn ≤ 242
    · have hk1 : ¬ (242 : Int) < sn := by omega
      have hd1 : decide ((242 : Int) < sn) = false := decide_eq_false hk1
      obtain ⟨d, hd⟩ : ∃ d, d = (own.drop 10).take sn := ⟨_, rfl⟩
      have hdl : d.length = sn := by rw [hd, List.length_take, List.length_drop, HLO.out]; omega
      have HD := Aside0.mk hd
      have HDL := Aside0.mk hdl
      have HK := Aside0.mk hk
      have HE := Aside0.mk ERR
      clear hd hdl ERR
      go_wp2_with fail
      obtain ⟨a2, ha2⟩ : ∃ a2, a2 = (⟨a.block, a.off + 10, none⟩ : Addr) := ⟨_, rfl⟩
      have hmc : ∀ x, Below w6.heap.size w6 x → Kd.C (Kd.int .u8) x (some a2) d.length d := fun x hx => by
        have := mid_C (HG.out.row x hx) 10 sn (by rw [HLO.out]; omega)
        rw [← HD.out] at this
        rw [HDL.out, ha2]
        exact this
      rw [← ha2]
      clear ha2
      have HMC := Aside0.mk hmc
      clear hmc
      obtain ⟨w7, hw7⟩ : ∃ w7, w7 = w6.alloc (.cells #[.int .i64 o, .int .i64 n, .int .i64 x, .slice (some a2) sn (c1 - 10)] 24) := ⟨_, rfl⟩
      have hb7 : Below w6.heap.size w6 w7 := by rw [hw7]; exact (Below.refl _ _).alloc (Nat.le_refl _) _
      have hx7 : w7.heap[w6.heap.size]? = some (.cells #[.int .i64 o, .int .i64 n, .int .i64 x, .slice (some a2) sn (c1 - 10)] 24 (0, 0)) := by rw [hw7]; exact heap_alloc_new w6 _
      have hlt := blk_lt HG.out.zero
      rw [← hw7]
      obtain ⟨xb, hxb⟩ : ∃ xb, xb = w6.heap.size := ⟨_, rfl⟩
      rw [← hxb] at hx7 hlt ⊢
      have hg := HG.out.step hb7
      have HMC7 := Aside0.mk (show ∀ x, Below w7.heap.size w7 x → Kd.C (Kd.int .u8) x (some a2) d.length d from fun x hx => HMC.out x (below_steps hb7 hx))
      have HDB := Aside0.mk (show ∀ y ∈ d, 0 ≤ y ∧ y ≤ 255 by rw [HD.out]; exact take_byte HOB.out 10 sn)
      clear HG hb7 hw7 hxb HMC
      have HG := Aside0.mk hg
      clear hg
      have hp := xput_any o n x (some a2) (c1 - 10) d (HMC7.out _ (Below.refl _ _)) (by rw [HDL.out]; omega) HDB.out
      rw [HDL.out] at hp
      obtain ⟨P, hP⟩ : ∃ P, P = putP o n x d := ⟨_, rfl⟩
      rw [← hP] at hp
      have HPP := Aside0.mk hP
      have hiff := HIFF.out
      rw [HRAW.out, ← HD.out, ← HQ3.out, HSZ.out] at hiff
      have hiff2 : okG own = true ↔ P.2 = 0 ∧ P.1 = l := by
        rw [hiff, HSE.out, ← HOWN.out, hP]
        constructor
        · rintro ⟨_, _, h1, h2⟩; exact ⟨h1, h2⟩
        · rintro ⟨h1, h2⟩; exact ⟨rfl, by have := HK.out; omega, h1, h2⟩
      clear hiff hP
      have HI2 := Aside0.mk hiff2
      clear hiff2
      refine hp.mono ?_
      clear hp
      rintro e w8 ⟨v8, rfl, hr8, b8⟩
      obtain ⟨A8, c8, rfl⟩ := Kd.R_slice hr8
      have hg := HG.out.step b8
      have HX8 := Aside0.mk ((b8.block _ (blk_lt hx7)).trans hx7)
      have HMC8 := Aside0.mk (show ∀ x, Below w8.heap.size w8 x → Kd.C (Kd.int .u8) x (some a2) d.length d from fun x hx => HMC7.out x (below_steps b8 hx))
      have HB8 := Aside0.mk b8
      clear HG b8 hx7 HMC7
      have HG := Aside0.mk hg
      clear hg
      obtain ⟨T, hT⟩ : ∃ T, T = strOfNums P.1 := ⟨_, rfl⟩
      obtain ⟨U, hU⟩ : ∃ U, U = strOfNums l := ⟨_, rfl⟩
      have hcv1 : (convert 22 9 (.slice A8 P.1.length c8)).run Try.prog w8 = .ok (.string T) w8 := by rw [hT]; exact strC (row_at hr8)
      have hcv2 : (convert 22 9 (.slice A 256 c)).run Try.prog w8 = .ok (.string U) w8 := by
        rw [hU]
        have := Kd.C_below HC.out (below_up HG.out.below)
        rw [HL.out] at this
        exact strC this
      obtain ⟨e2, he2⟩ : ∃ e2, e2 = P.2 := ⟨_, rfl⟩
      obtain ⟨pl, hpl⟩ : ∃ pl, pl = P.1.length := ⟨_, rfl⟩
      have HTU := Aside0.mk (show T.toList = U.toList → P.1 = l from fun h => str_inj (put_byte HDB.out HPP.out) HBY.out (by rw [← hT, ← hU]; exact h))
      have HTU2 := Aside0.mk (show P.1 = l → T = U from fun h => by rw [hT, hU, h])
      have HI3 := Aside0.mk (show okG own = true ↔ e2 = 0 ∧ P.1 = l by rw [he2]; exact HI2.out)
      rw [← he2, ← hpl]
      rw [← hpl] at hcv1
      clear hT hU he2 hpl hr8
      by_cases he : e2 = 0
      · subst he
        by_cases hpq : P.1 = l
        · have hr5 := Aside0.mk (show r = (⟨o, n, x, d⟩, 0) by rw [HQ.out, if_pos (HI3.out.2 ⟨rfl, hpq⟩), HRAW.out, HD.out])
          obtain rfl := HTU2.out hpq
          clear hpq
          have z0 : w8.cell? ⟨w.heap.size, 0, none⟩ = some (.int .i64 0) := cell_blk HG.out.zero
          have z1 : w8.cell? ⟨w.heap.size, 1, none⟩ = some (.int .i64 0) := cell_blk HG.out.zero
          have z2 : w8.cell? ⟨w.heap.size, 2, none⟩ = some (.int .i64 0) := cell_blk HG.out.zero
          have z3 : w8.cell? ⟨w.heap.size, 3, none⟩ = some (.slice none 0 0) := cell_blk HG.out.zero
          have f0 : w8.frozen? ⟨w.heap.size, 0, none⟩ = false := frozen_blk HG.out.zero
          have f1 : w8.frozen? ⟨w.heap.size, 1, none⟩ = false := frozen_blk HG.out.zero
          have f2 : w8.frozen? ⟨w.heap.size, 2, none⟩ = false := frozen_blk HG.out.zero
          have f3 : w8.frozen? ⟨w.heap.size, 3, none⟩ = false := frozen_blk HG.out.zero
          have x0 : w8.cell? ⟨xb, 0, none⟩ = some (.int .i64 o) := cell_blk HX8.out
          have x1 : w8.cell? ⟨xb, 1, none⟩ = some (.int .i64 n) := cell_blk HX8.out
          have x2 : w8.cell? ⟨xb, 2, none⟩ = some (.int .i64 x) := cell_blk HX8.out
          have x3 : w8.cell? ⟨xb, 3, none⟩ = some (.slice (some a2) sn (c1 - 10)) := cell_blk HX8.out
          go_wp2_with fail
          refine bodyPost_ret (results_ct rfl _ _ w.heap.size 24 #[.int .i64 o, .int .i64 n, .int .i64 x, .slice (some a2) sn (c1 - 10)] (0, 0) _ rfl (four_set HG.out.zero _ _ _ _) Try.underlying24 rfl (by kernel_rfl)) rfl ?_
          refine ⟨some a2, c1 - 10, by rw [hr5.out, ← HDL.out]; rfl, by rw [hr5.out]; show d.length ≤ c1 - 10; rw [HDL.out]; omega, fun y hy => ?_, four_below HG.out.below (Nat.le_refl _) _ _ _ _⟩
          rw [hr5.out]
          exact Kd.C_below (C_but (HMC8.out _ (Below.refl _ _)) HG.out.zero zero_not8 (four_but _ _ _ _)) hy
        · have hne : (!T.toList == U.toList) = true := by simpa using (fun h => hpq (HTU.out h))
          have HR5 := Aside0.mk (HE.out (fun h => hpq (HI3.out.1 h).2))
          clear hpq
          have z0 : w8.cell? ⟨w.heap.size, 0, none⟩ = some (.int .i64 0) := cell_blk HG.out.zero
          have z1 : w8.cell? ⟨w.heap.size, 1, none⟩ = some (.int .i64 0) := cell_blk HG.out.zero
          have z2 : w8.cell? ⟨w.heap.size, 2, none⟩ = some (.int .i64 0) := cell_blk HG.out.zero
          have z3 : w8.cell? ⟨w.heap.size, 3, none⟩ = some (.slice none 0 0) := cell_blk HG.out.zero
          have f0 : w8.frozen? ⟨w.heap.size, 0, none⟩ = false := frozen_blk HG.out.zero
          have f1 : w8.frozen? ⟨w.heap.size, 1, none⟩ = false := frozen_blk HG.out.zero
          have f2 : w8.frozen? ⟨w.heap.size, 2, none⟩ = false := frozen_blk HG.out.zero
          have f3 : w8.frozen? ⟨w.heap.size, 3, none⟩ = false := frozen_blk HG.out.zero
          go_wp2_with fail
          refine bodyPost_ret (results_ct rfl _ _ w.heap.size 24 #[.int .i64 0, .int .i64 0, .int .i64 0, .slice none 0 0] (0, 0) _ rfl (four_set HG.out.zero _ _ _ _) Try.underlying24 rfl (by kernel_rfl)) rfl ?_
          exact ⟨none, 0, by rw [HR5.out]; rfl, by rw [HR5.out]; exact Nat.le_refl _, fun x hx => by rw [HR5.out]; exact nilC x, four_below HG.out.below (Nat.le_refl _) _ _ _ _⟩
      · have he' : (e2 != 0) = true := by simpa using he
        have HR5 := Aside0.mk (HE.out (fun h => he (HI3.out.1 h).1))
        have z0 : w8.cell? ⟨w.heap.size, 0, none⟩ = some (.int .i64 0) := cell_blk HG.out.zero
        have z1 : w8.cell? ⟨w.heap.size, 1, none⟩ = some (.int .i64 0) := cell_blk HG.out.zero
        have z2 : w8.cell? ⟨w.heap.size, 2, none⟩ = some (.int .i64 0) := cell_blk HG.out.zero
        have z3 : w8.cell? ⟨w.heap.size, 3, none⟩ = some (.slice none 0 0) := cell_blk HG.out.zero
        have f0 : w8.frozen? ⟨w.heap.size, 0, none⟩ = false := frozen_blk HG.out.zero
        have f1 : w8.frozen? ⟨w.heap.size, 1, none⟩ = false := frozen_blk HG.out.zero
        have f2 : w8.frozen? ⟨w.heap.size, 2, none⟩ = false := frozen_blk HG.out.zero
        have f3 : w8.frozen? ⟨w.heap.size, 3, none⟩ = false := frozen_blk HG.out.zero
        go_wp2_with fail
        refine bodyPost_ret (results_ct rfl _ _ w.heap.size 24 #[.int .i64 0, .int .i64 0, .int .i64 0, .slice none 0 0] (0, 0) _ rfl (four_set HG.out.zero _ _ _ _) Try.underlying24 rfl (by kernel_rfl)) rfl ?_
        exact ⟨none, 0, by rw [HR5.out]; rfl, by rw [HR5.out]; exact Nat.le_refl _, fun x hx => by rw [HR5.out]; exact nilC x, four_below HG.out.below (Nat.le_refl _) _ _ _ _⟩
    · have hd1 : decide ((242 : Int) < sn) = true := decide_eq_true (by omega)
      have HR5 := Aside0.mk (ERR (fun h => hk (by have := (HIFF.out.1 h).2.1; rw [HSZ.out] at this; omega)))
      clear ERR
      have z0 : w6.cell? ⟨w.heap.size, 0, none⟩ = some (.int .i64 0) := cell_blk HG.out.zero
      have z1 : w6.cell? ⟨w.heap.size, 1, none⟩ = some (.int .i64 0) := cell_blk HG.out.zero
      have z2 : w6.cell? ⟨w.heap.size, 2, none⟩ = some (.int .i64 0) := cell_blk HG.out.zero
      have z3 : w6.cell? ⟨w.heap.size, 3, none⟩ = some (.slice none 0 0) := cell_blk HG.out.zero
      have f0 : w6.frozen? ⟨w.heap.size, 0, none⟩ = false := frozen_blk HG.out.zero
      have f1 : w6.frozen? ⟨w.heap.size, 1, none⟩ = false := frozen_blk HG.out.zero
      have f2 : w6.frozen? ⟨w.heap.size, 2, none⟩ = false := frozen_blk HG.out.zero
      have f3 : w6.frozen? ⟨w.heap.size, 3, none⟩ = false := frozen_blk HG.out.zero
      go_wp2_with fail
      refine bodyPost_ret (results_ct rfl _ _ w.heap.size 24 #[.int .i64 0, .int .i64 0, .int .i64 0, .slice none 0 0] (0, 0) _ rfl (four_set HG.out.zero _ _ _ _) Try.underlying24 rfl (by kernel_rfl)) rfl ?_
      exact ⟨none, 0, by rw [HR5.out]; rfl, by rw [HR5.out]; exact Nat.le_refl _, fun x hx => by rw [HR5.out]; exact nilC x, four_below HG.out.below (Nat.le_refl _) _ _ _ _⟩
  · have h3' : (q3 != 0) = true := by simpa using h3
    have HR5 := Aside0.mk (ERR (fun h => h3 (by rw [HQ3.out]; exact (HIFF.out.1 h).1)))
    clear ERR
    have z0 : w6.cell? ⟨w.heap.size, 0, none⟩ = some (.int .i64 0) := cell_blk HG.out.zero
    have z1 : w6.cell? ⟨w.heap.size, 1, none⟩ = some (.int .i64 0) := cell_blk HG.out.zero
    have z2 : w6.cell? ⟨w.heap.size, 2, none⟩ = some (.int .i64 0) := cell_blk HG.out.zero
    have z3 : w6.cell? ⟨w.heap.size, 3, none⟩ = some (.slice none 0 0) := cell_blk HG.out.zero
    have f0 : w6.frozen? ⟨w.heap.size, 0, none⟩ = false := frozen_blk HG.out.zero
    have f1 : w6.frozen? ⟨w.heap.size, 1, none⟩ = false := frozen_blk HG.out.zero
    have f2 : w6.frozen? ⟨w.heap.size, 2, none⟩ = false := frozen_blk HG.out.zero
    have f3 : w6.frozen? ⟨w.heap.size, 3, none⟩ = false := frozen_blk HG.out.zero
    go_wp2_with fail
    refine bodyPost_ret (results_ct rfl _ _ w.heap.size 24 #[.int .i64 0, .int .i64 0, .int .i64 0, .slice none 0 0] (0, 0) _ rfl (four_set HG.out.zero _ _ _ _) Try.underlying24 rfl (by kernel_rfl)) rfl ?_
    exact ⟨none, 0, by rw [HR5.out]; rfl, by rw [HR5.out]; exact Nat.le_refl _, fun x hx => by rw [HR5.out]; exact nilC x, four_below HG.out.below (Nat.le_refl _) _ _ _ _⟩
end Cell
end Go.Proofs.Ytkfbegmfepehiaa
