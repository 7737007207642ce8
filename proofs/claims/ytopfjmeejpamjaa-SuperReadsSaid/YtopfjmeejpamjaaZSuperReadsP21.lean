/- Part 22 of the proof of SuperReads: lemmas alone. -/
import Derived.Test.YtopfjmeejpamjaaZSuperReadsP20
import Derived.Deep.MidRow
section
namespace Go.Proofs.Ytopfjmeejpamjaa
set_option linter.unusedVariables false
set_option linter.unusedSimpArgs false
set_option linter.ambiguousOpen false
open Go.RowKit Go.Proofs.YtopfjmeejpamjaaW.PrintWords Go.Proofs.YtopfjmeejpamjaaW.PrintLast Go.Proofs.YtopfjmeejpamjaaW.PrintMore
namespace Supr
open Go.Num Go.Crc Go.Proofs.Ytopfjmeejpamjaa.Cell Go.Proofs.Ytopfjmeejpamjaa.Sect
structure RW (w0 w : World) (db sb xb : Nat) (D X : Go.Disk.Dk) : Prop where
  bel : Below w0.heap.size w0 w
  pair : Disk.Pair w w0.heap.size db sb xb D X
theorem RW.step {w0 w w' : World} {db sb xb : Nat} {D X : Go.Disk.Dk} (h : RW w0 w db sb xb D X) (b : Below w.heap.size w w') : RW w0 w' db sb xb D X :=
  ⟨h.bel.trans (b.mono h.bel.size), h.pair.below b⟩
theorem RW.prog {w0 w w' : World} {db sb xb : Nat} {D D' X : Go.Disk.Dk} (h : RW w0 w db sb xb D X) (f : Disk.FP w0.heap.size db sb w w') (p : Disk.PD w' w0.heap.size db sb D') : RW w0 w' db sb xb D' X :=
  ⟨h.bel.trans (Disk.FP.below f h.pair.low.1 h.pair.low.2.1 h.bel.size), p, h.pair.fp f, Nat.le_trans h.bel.size f.size⟩
theorem RW.doc {w0 w w' : World} {db sb xb : Nat} {D X X' : Go.Disk.Dk} (h : RW w0 w db sb xb D X) (f : Disk.FX w0.heap.size xb w w') (r : Disk.RD w' w0.heap.size sb xb X') : RW w0 w' db sb xb D X' :=
  ⟨h.bel.trans (Disk.FB.below (Disk.FB.of_fx (db := db) (sb := sb) f) h.pair.low.1 h.pair.low.2.1 h.pair.low.2.2 h.bel.size), h.pair.pd.fx h.pair.rd f, r, Nat.le_trans h.bel.size f.size⟩
theorem keepSP {w w' : World} {base db sb ub : Nat} {D : Go.Disk.Dk} {s : SU} (h : Disk.PD w base db sb D) (f : Disk.FP base db sb w w') (hu : Sup w ub s) : Sup w' ub s := keep_super h f hu
theorem keepSX {w w' : World} {base sb xb ub : Nat} {D : Go.Disk.Dk} {s : SU} (h : Disk.RD w base sb xb D) (f : Disk.FX base xb w w') (hu : Sup w ub s) : Sup w' ub s := keep_superX h f hu
theorem readDk_waits (D : Go.Disk.Dk) : (readDk D).waits = D.waits := by
  unfold readDk
  split
  · rfl
  · exact (scan_same D 2).2.2
theorem under_slots : ∃ d, Try.prog.underlying 52 = some d ∧ d.isRow = true := by
  have h : (Try.prog.underlying 52).map TypeDesc.isRow = some true := by kernel_rfl
  cases hq : Try.prog.underlying 52 with
  | none => rw [hq] at h; simp at h
  | some d => rw [hq] at h; exact ⟨d, rfl, by simpa using h⟩
theorem rd_low {w : World} {base base' sb xb : Nat} {D : Go.Disk.Dk} (h : Disk.RD w base sb xb D) (hb : base' ≤ base) : Disk.RD w base' sb xb D := by
  obtain ⟨vs, vw, h⟩ := h
  exact ⟨vs, vw, h.ok, Nat.le_trans hb h.xbase, h.slt, fun k hk => Nat.le_trans hb (h.sown k hk), fun k hk => Nat.le_trans hb (h.wown k hk), h.cells, h.safe, h.waits⟩
theorem keep_superB {w w' : World} {base db sb xb ub : Nat} {D X : Go.Disk.Dk} {uc : Array Value} (h : Disk.PD w base db sb D) (r : Disk.RD w base sb xb X) (f : Disk.FB base db sb xb w w') (hu : w.heap[ub]? = some (.cells uc 25 (0, 0))) : w'.heap[ub]? = some (.cells uc 25 (0, 0)) := by
  obtain ⟨⟨_, h1⟩, _, h2⟩ := pd_tags h
  obtain ⟨_, h3⟩ := rd_tag r
  exact (f.block ub (blk_lt hu) (by
    rintro (e | e | e)
    · exact tag_ne hu h1 (by decide) e
    · exact tag_ne hu h2 (by decide) e
    · exact tag_ne hu h3 (by decide) e) (fun c t fz hc e => by
    rw [hu] at hc
    cases hc
    have e2 := e.2
    revert e2
    decide)).trans hu
set_option maxHeartbeats 32000000 in
set_option maxRecDepth 100000 in
theorem reads_walk {w : World} (s t : SU) (p0 p1 : Int) (t0 t1 : Bool) (a0 a1 u0 u1 : Int) (hp0 : 0 ≤ p0 ∧ p0 ≤ 255) (hp1 : 0 ≤ p1 ∧ p1 ≤ 255) (ha0 : 0 ≤ a0 ∧ a0 ≤ 255) (ha1 : 0 ≤ a1 ∧ a1 ≤ 255) (hu0 : 0 ≤ u0 ∧ u0 ≤ 255) (hu1 : 0 ≤ u1 ∧ u1 ≤ 255)
    (A : Option Addr) (c : Nat) (ys : List PSuper.S61) (h : Disk.Came w A ys) (hc : ys.length ≤ c) (z : SU) :
    Calls Try.prog 6 #[.agg (slotC s t p0 p1 t0 t1 a0 a1 u0 u1), .slice A ys.length c, z.v] w fun r w' => r = .returned (.bool true) ∧ Below w.heap.size w w' := by
  have HC := Aside0.mk h
  have HCC := Aside0.mk hc
  obtain ⟨n, hn⟩ : ∃ n, n = ys.length := ⟨_, rfl⟩
  have HN := Aside0.mk hn.symm
  rw [← hn]
  obtain ⟨w1, hw1⟩ : ∃ w1, w1 = (w.alloc (.cells (slotC s t p0 p1 t0 t1 a0 a1 u0 u1) 52)).alloc (.cells (sixU z.g z.b z.l z.p z.q z.o) 25) := ⟨_, rfl⟩
  have HB := Aside0.mk (show Below w.heap.size w w1 by rw [hw1]; exact ((Below.refl _ _).alloc (Nat.le_refl _) _).alloc (by simp) _)
  have HX := Aside0.mk (show w1.heap[w.heap.size]? = some (.cells (slotC s t p0 p1 t0 t1 a0 a1 u0 u1) 52 (0, 0)) by
    rw [hw1, Below.heap_alloc _ _ _ (by simp)]
    exact heap_alloc_new w _)
  have HZ := Aside0.mk (show Sup w1 (w.heap.size + 1) z by
    rw [hw1]
    have := heap_alloc_new (w.alloc (.cells (slotC s t p0 p1 t0 t1 a0 a1 u0 u1) 52)) (.cells (sixU z.g z.b z.l z.p z.q z.o) 25)
    rw [World.size_alloc] at this
    exact this)
  obtain ⟨cs, hcs⟩ : ∃ cs, cs = slotC s t p0 p1 t0 t1 a0 a1 u0 u1 := ⟨_, rfl⟩
  have him := fun (x : World) => image_any (w := x) s t p0 p1 t0 t1 a0 a1 u0 u1 hp0 hp1 ha0 ha1 hu0 hu1
  have HCL := Aside0.mk (show (Try.prog.info? 52).map (·.size) = some cs.toList.length by rw [hcs]; kernel_rfl)
  rw [← hcs] at him HX hw1 ⊢
  have HIM := Aside0.mk him
  have HW1 := Aside0.mk hw1
  clear him hcs
  clear h hc hn hw1 hp0 hp1 ha0 ha1 hu0 hu1
  obtain ⟨us, hus⟩ : ∃ us, us = w.heap.size + 1 := ⟨_, rfl⟩
  have HUS := Aside0.mk hus
  rw [← hus] at HZ
  clear hus
  go_enter Try.func6, Try.ntmps6
  go_wp2_with fail
  rw [← HW1.out, ← HUS.out]
  have hfw := Disk.few_any (w := w1) A c ys (HC.out.below HB.out).row HCC.out
  rw [HN.out] at hfw
  refine hfw.mono ?_
  clear hfw HW1
  rintro e w2 ⟨r, rfl, HR, b2⟩
  replace HB := Aside0.mk (below_steps HB.out b2)
  replace HZ := Aside0.mk (HZ.out.step b2)
  replace HX := Aside0.mk ((b2.block _ (blk_lt HX.out)).trans HX.out)
  clear b2
  cases r with
  | false =>
    go_wp2_with fail
    refine (awake_any _).mono ?_
    rintro e w9 ⟨rfl, b9⟩
    replace HB := Aside0.mk (below_steps HB.out b9)
    clear b9
    go_wp2_with fail
    go_ret
    exact ⟨rfl, HB.out⟩
  | true =>
    have H40 := Aside0.mk (HR.out rfl)
    clear HR
    have hrg : w2.rangeAt w.heap.size 0 cs.toList := fun j v hv => by
      rw [Nat.zero_add, cell_blk HX.out]
      simpa using hv
    obtain ⟨d, hu, hd⟩ := under_slots
    have HRG := Aside0.mk hrg
    have HU := Aside0.mk hu
    have HD := Aside0.mk hd
    clear hrg hu hd
    go_wp2_with (refine wpList_load_mid (by rfl) 52 (.tmp 3) (by rfl) w.heap.size 0 (by rfl) cs.toList d HRG.out HU.out HD.out HCL.out ?_; rw [Array.toArray_toList])
    clear HRG HU HD
    refine (HIM.out w2).mono ?_
    clear HIM HX
    rintro e w3 ⟨g, bs, rfl, hl, hby, hrow, b3⟩
    replace HB := Aside0.mk (below_steps HB.out b3)
    replace HZ := Aside0.mk (HZ.out.step b3)
    have HROW := Aside0.mk (show ∀ x, Below w3.heap.size w3 x → Kd.C (Kd.int .u8) x (some ⟨g, 0, none⟩) bs.length bs from fun x hx => row_at (row_of (base := 0) (ok := fun _ => True) (sp := []) (by rw [List.append_nil]; exact (hx.block _ (blk_lt hrow)).trans hrow) (Nat.zero_le _) trivial rfl (by rw [hl]; decide)))
    have HL := Aside0.mk hl
    have HBY := Aside0.mk hby
    clear hl hby hrow b3
    go_wp2_with fail
    have hld := Disk.load_yes (w := w3) ⟨g, 0, none⟩ 4096 bs 16 (by rw [HL.out]) (by decide) (HROW.out _ (Below.refl _ _)) HBY.out
    rw [HL.out] at hld
    refine hld.mono ?_
    clear hld
    rintro e w4 ⟨db, sb, rfl, p4, b4⟩
    have HSL := Aside0.mk (show sb < w4.heap.size by obtain ⟨_, _, _, h⟩ := p4; exact blk_lt h.safe)
    have HP4 := Aside0.mk (pd_low (base' := w.heap.size) p4 HB.out.size)
    have HRC := Aside0.mk (HROW.out w4 b4)
    replace HB := Aside0.mk (below_steps HB.out b4)
    replace HZ := Aside0.mk (HZ.out.step b4)
    clear p4 b4 HROW
    go_wp2_with fail
    have hld := Disk.xload_yes (w := w4) sb HSL.out ⟨g, 0, none⟩ 4096 bs 16 (by rw [HL.out]) (by decide) (by rw [HL.out]; decide) HRC.out HBY.out
    rw [HL.out] at hld
    refine hld.mono ?_
    clear hld
    rintro e w5 ⟨xb, rfl, p5, b5⟩
    obtain ⟨D0, hD0⟩ : ∃ D0, D0 = Disk.loadD bs 16 := ⟨_, rfl⟩
    have HD0 := Aside0.mk (show D0.waits.length = 0 by rw [hD0]; rfl)
    rw [← hD0] at HP4 p5
    have HRW := Aside0.mk (show RW w w5 db sb xb D0 D0 from ⟨below_steps HB.out b5, HP4.out.below b5, rd_low p5 HB.out.size, Nat.le_trans HB.out.size b5.size⟩)
    replace HZ := Aside0.mk (HZ.out.step b5)
    clear p5 b5 hD0 HB HP4 HSL HRC HL HBY
    go_wp2_with fail
    go_loopg [12] n (fun gk v12 wr => ∃ i : Nat, Aside0 (i + gk = n) ∧ v12 = .int .i64 (i : Int) ∧ Aside0 (RW w wr db sb xb (Disk.doAll D0 (ys.take i)) (Disk.doAll D0 (ys.take i))) ∧ Aside0 (Sup wr us z))
    case atStart => exact ⟨0, ⟨by omega⟩, rfl, HRW, HZ⟩
    case round =>
      clear HRW HZ
      obtain ⟨i, HI, rfl, HRW, HZ⟩ := hrel
      by_cases hi : i < n
      · have hiy : i < ys.length := by rw [HN.out]; exact hi
        obtain ⟨ad, A2, c2, A4, c4, rfl, hcells, hc2, hc4, hby, hN⟩ := Disk.Came.at_ HC.out i hiy
        have HSTEP := Aside0.mk (Disk.doAll_succ D0 ys i hiy)
        have hwt := Disk.waits_all D0 (ys.take i)
        have hwf : (Disk.doAll D0 (ys.take i)).waits.length ≤ 1000 := by rw [List.length_take] at hwt; have := HD0.out; have := H40.out; omega
        obtain ⟨DI, hDI⟩ : ∃ DI, DI = Disk.doAll D0 (ys.take i) := ⟨_, rfl⟩
        rw [← hDI] at HSTEP HRW hwf
        clear hwt hDI
        obtain ⟨⟨K, N, xs, odd, ms⟩, hy⟩ : ∃ y, y = PSuper.rd_T61 ys (i : Int) := ⟨_, rfl⟩
        rw [← hy] at hcells hc2 hc4 hby hN HSTEP
        replace HSTEP := Aside0.mk (show Disk.doAll D0 (ys.take (i + 1)) = Disk.doD DI K N xs odd ms from HSTEP.out)
        clear hy
        have HCL := Aside0.mk hcells
        have HBY := Aside0.mk hby
        have HWF := Aside0.mk hwf
        have HIY := Aside0.mk hiy
        clear hcells hby hwf hiy
        have hd0 := (HCL.out _ HRW.out.bel).1
        have hd1 := (HCL.out _ HRW.out.bel).2.1
        have hd2 := (HCL.out _ HRW.out.bel).2.2.1
        have hd3 := (HCL.out _ HRW.out.bel).2.2.2.1
        have hd4 := (HCL.out _ HRW.out.bel).2.2.2.2.1
        have hii : (i : Int) < (n : Int) := by omega
        go_wp2_with fail
        refine (Disk.do_any (show Disk.Both wr w.heap.size db sb xb DI from ⟨HRW.out.pair.pd, HRW.out.pair.rd, HRW.out.pair.bs⟩) K N A2 xs c2 odd A4 ms c4 (fun x hx => (HCL.out x (HRW.out.bel.trans hx)).2.2.2.2.2.1) hc2 HBY.out (fun x hx => (HCL.out x (HRW.out.bel.trans hx)).2.2.2.2.2.2) hc4 hN (by have := HWF.out; omega)).mono ?_
        rintro e w6 ⟨rfl, p6, f6, hgt⟩
        rw [← HSTEP.out] at p6
        have HZ6 := Aside0.mk (show Sup w6 us z from keep_superB HRW.out.pair.pd HRW.out.pair.rd f6 HZ.out)
        have HRW6 := Aside0.mk (show RW w w6 db sb xb (Disk.doAll D0 (ys.take (i + 1))) (Disk.doAll D0 (ys.take (i + 1))) from ⟨HRW.out.bel.trans (Disk.FB.below f6 HRW.out.pair.low.1 HRW.out.pair.low.2.1 HRW.out.pair.low.2.2 HRW.out.bel.size), p6.pd, p6.rd, p6.bs⟩)
        clear p6 f6 hgt
        go_wp2_with fail
        go_roundg (gk - 1)
        case measure => have := HI.out; omega
        case rel => exact ⟨i + 1, ⟨by have := HI.out; omega⟩, by rw [show wrap64 ((i : Int) + 1) = ((i + 1 : Nat) : Int) by have := H40.out; unfold wrap64; omega], HRW6, HZ6⟩
      · have hin : i = n := by have := HI.out; omega
        have hwt := Disk.waits_all D0 (ys.take i)
        obtain ⟨D, hD⟩ : ∃ D, D = Disk.doAll D0 (ys.take i) := ⟨_, rfl⟩
        rw [← hD] at HRW hwt
        have HWT := Aside0.mk (show D.waits.length ≤ 1000 by rw [List.length_take] at hwt; have := HD0.out; have := H40.out; omega)
        clear hwt hD
        have hii : ¬ (i : Int) < (n : Int) := by omega
        go_wp2_with fail
        clear HC HCC HN H40 HD0 HI hi hin hii
        obtain ⟨R, hR⟩ : ∃ R, R = readU D := ⟨_, rfl⟩
        obtain ⟨s1, hs1⟩ : ∃ s, s = R.1 := ⟨_, rfl⟩
        obtain ⟨e1, he1⟩ : ∃ e, e = R.2 := ⟨_, rfl⟩
        have HR1 := Aside0.mk (show readU D = (s1, e1) by rw [← hR, hs1, he1])
        clear hR hs1 he1
        have hr := sread_any HRW.out.pair.pd (by have := HWT.out; omega)
        rw [HR1.out] at hr
        refine hr.mono ?_
        clear hr
        rintro e w6 ⟨rfl, p6, f6⟩
        replace HZ := Aside0.mk (keepSP HRW.out.pair.pd f6 HZ.out)
        replace HRW := Aside0.mk (HRW.out.prog f6 p6)
        clear p6 f6
        go_wp2_with fail
        obtain ⟨w7, hw7⟩ : ∃ z, z = w6.alloc (.cells (sixU s1.g s1.b s1.l s1.p s1.q s1.o) 25) := ⟨_, rfl⟩
        have bw7 : Below w6.heap.size w6 w7 := by rw [hw7]; exact (Below.refl _ _).alloc (Nat.le_refl _) _
        have HT1 := Aside0.mk (show Sup w7 w6.heap.size s1 by rw [hw7]; exact heap_alloc_new w6 _)
        obtain ⟨uw7, huw7⟩ : ∃ u, u = w6.heap.size := ⟨_, rfl⟩
        rw [← hw7, ← huw7]
        rw [← huw7] at HT1
        replace HRW := Aside0.mk (HRW.out.step bw7)
        replace HZ := Aside0.mk (HZ.out.step bw7)
        clear hw7 bw7 huw7
        have hr := xsread_any HRW.out.pair.rd (by have := HWT.out; omega)
        rw [HR1.out] at hr
        refine hr.mono ?_
        clear hr
        rintro e w8 ⟨rfl, p8, f8⟩
        replace HZ := Aside0.mk (keepSX HRW.out.pair.rd f8 HZ.out)
        replace HT1 := Aside0.mk (keepSX HRW.out.pair.rd f8 HT1.out)
        replace HRW := Aside0.mk (HRW.out.doc f8 p8)
        clear p8 f8
        go_upto_region 14 with (fail)
        obtain ⟨w9, hw9⟩ : ∃ z, z = w8.alloc (.cells (sixU s1.g s1.b s1.l s1.p s1.q s1.o) 25) := ⟨_, rfl⟩
        have bw9 : Below w8.heap.size w8 w9 := by rw [hw9]; exact (Below.refl _ _).alloc (Nat.le_refl _) _
        have HT2 := Aside0.mk (show Sup w9 w8.heap.size s1 by rw [hw9]; exact heap_alloc_new w8 _)
        obtain ⟨uw9, huw9⟩ : ∃ u, u = w8.heap.size := ⟨_, rfl⟩
        rw [← hw9, ← huw9]
        rw [← huw9] at HT2
        replace HRW := Aside0.mk (HRW.out.step bw9)
        replace HZ := Aside0.mk (HZ.out.step bw9)
        replace HT1 := Aside0.mk (HT1.out.step bw9)
        clear hw9 bw9 huw9
        obtain ⟨D1, hD1⟩ : ∃ D1, D1 = readDk D := ⟨_, rfl⟩
        have HW1 := Aside0.mk (show D1.waits.length ≤ 1000 by rw [hD1, readDk_waits]; exact HWT.out)
        rw [← hD1] at HRW
        clear hD1
        obtain ⟨W, hW⟩ : ∃ W, W = writeU D1 z := ⟨_, rfl⟩
        obtain ⟨q, hq⟩ : ∃ q, q = W.2 := ⟨_, rfl⟩
        have HWW := Aside0.mk (show W.1.waits.length ≤ 1001 by rw [hW]; have := writeU_waits D1 z; have := HW1.out; omega)
        have hwp := fun (x : World) (db' sb' b' : Nat) (hx : Disk.PD x b' db' sb' D1) => swrite_any hx z (by have := HW1.out; omega)
        have hwx := fun (x : World) (xb' sb' b' : Nat) (hx : Disk.RD x b' sb' xb' D1) => xswrite_any hx z (by have := HW1.out; omega)
        rw [← hW, ← hq] at hwp hwx
        have HWP := Aside0.mk hwp
        have HWX := Aside0.mk hwx
        clear hwp hwx hW hq
        go_cut [17, 18] from 64 to 69 (fun v17 v18 wc => v17 = .int .i64 q ∧ v18 = .int .i64 q ∧ Aside0 (RW w wc db sb xb W.1 W.1) ∧ Aside0 (Sup wc us z) ∧ Aside0 (Sup wc uw7 s1) ∧ Aside0 (Sup wc uw9 s1))
        case first =>
          have HSZ := Aside0.mk (show w9.drew.heap[us]? = some (.cells (sixU z.g z.b z.l z.p z.q z.o) 25 (0, 0)) from HZ.out)
          refine Go.Reg.region (fun y => y.heap[us]? = some (.cells (sixU z.g z.b z.l z.p z.q z.o) 25 (0, 0))) [.s, .s, .w, .s, .s, .w, .p, .p] (by kernel_rfl) (by kernel_rfl) HSZ.out (fun ne => ?_)
          have m0 : ∀ m : Go.Reg.In (fun y => y.heap[us]? = some (.cells (sixU z.g z.b z.l z.p z.q z.o) 25 (0, 0))), m.w.cell? ⟨us, 0, none⟩ = some (.int .i64 z.g) := fun m => cell_blk m.h
          have m1 : ∀ m : Go.Reg.In (fun y => y.heap[us]? = some (.cells (sixU z.g z.b z.l z.p z.q z.o) 25 (0, 0))), m.w.cell? ⟨us, 1, none⟩ = some (.int .i64 z.b) := fun m => cell_blk m.h
          have m2 : ∀ m : Go.Reg.In (fun y => y.heap[us]? = some (.cells (sixU z.g z.b z.l z.p z.q z.o) 25 (0, 0))), m.w.cell? ⟨us, 2, none⟩ = some (.int .i64 z.l) := fun m => cell_blk m.h
          have m3 : ∀ m : Go.Reg.In (fun y => y.heap[us]? = some (.cells (sixU z.g z.b z.l z.p z.q z.o) 25 (0, 0))), m.w.cell? ⟨us, 3, none⟩ = some (.int .i64 z.p) := fun m => cell_blk m.h
          have m4 : ∀ m : Go.Reg.In (fun y => y.heap[us]? = some (.cells (sixU z.g z.b z.l z.p z.q z.o) 25 (0, 0))), m.w.cell? ⟨us, 4, none⟩ = some (.int .i64 z.q) := fun m => cell_blk m.h
          have m5 : ∀ m : Go.Reg.In (fun y => y.heap[us]? = some (.cells (sixU z.g z.b z.l z.p z.q z.o) 25 (0, 0))), m.w.cell? ⟨us, 5, none⟩ = some (.int .i64 z.o) := fun m => cell_blk m.h
          refine Go.Reg.lex_q 2 _ _ _ _ (by rfl) ?_; simp only [List.take_succ_cons, List.take_zero, List.drop_succ_cons, List.drop_zero]; (repeat (go_big_quiet_step (rfl))); refine wpQuiet_nil ?_
          have hdr := below_drew1 (Below.refl w9.heap.size w9)
          replace HRW := Aside0.mk (HRW.out.step hdr)
          replace HZ := Aside0.mk (HZ.out.step hdr)
          replace HT1 := Aside0.mk (HT1.out.step hdr)
          replace HT2 := Aside0.mk (HT2.out.step hdr)
          clear hdr HSZ
          refine Go.Reg.step_w (fun KK hKK => ?_)
          go_wp2_with fail
          refine (HWP.out _ db sb w.heap.size HRW.out.pair.pd).mono ?_
          rintro e w10 ⟨rfl, p10, f10⟩
          replace HZ := Aside0.mk (keepSP HRW.out.pair.pd f10 HZ.out)
          replace HT1 := Aside0.mk (keepSP HRW.out.pair.pd f10 HT1.out)
          replace HT2 := Aside0.mk (keepSP HRW.out.pair.pd f10 HT2.out)
          replace HRW := Aside0.mk (HRW.out.prog f10 p10)
          clear p10 f10
          go_wp2_with fail
          refine hKK.out _ _ HZ.out ?_
          clear hKK KK
          refine Go.Reg.lex_q 2 _ _ _ _ (by rfl) ?_; simp only [List.take_succ_cons, List.take_zero, List.drop_succ_cons, List.drop_zero]; (repeat (go_big_quiet_step (rfl))); refine wpQuiet_nil ?_
          clear m0 m1 m2 m3 m4 m5
          refine Go.Reg.step_w (fun KK hKK => ?_)
          go_wp2_with fail
          refine (HWX.out _ xb sb w.heap.size HRW.out.pair.rd).mono ?_
          rintro e w11 ⟨rfl, p11, f11⟩
          replace HZ := Aside0.mk (keepSX HRW.out.pair.rd f11 HZ.out)
          replace HT1 := Aside0.mk (keepSX HRW.out.pair.rd f11 HT1.out)
          replace HT2 := Aside0.mk (keepSX HRW.out.pair.rd f11 HT2.out)
          replace HRW := Aside0.mk (HRW.out.doc f11 p11)
          clear p11 f11
          go_wp2_with fail
          refine hKK.out _ _ HZ.out ?_
          clear hKK KK
          refine Go.Reg.lex_qp 2 _ _ _ _ _ (by rfl) ?_; simp only [List.take_succ_cons, List.take_zero, List.drop_succ_cons, List.drop_zero]; (repeat (go_big_quiet_step (rfl))); refine wpQuiet_nil ?_
          refine Go.Reg.lex_nil ?_
          go_wp2_with fail
          go_meet
          case rel => exact ⟨rfl, rfl, HRW, HZ, HT1, HT2⟩
        case rest =>
          clear HRW HZ HT1 HT2 HWP HWX
          obtain ⟨rfl, rfl, HRW, HZ, HT1, HT2⟩ := hcut
          obtain ⟨E, hE⟩ : ∃ E, E = W.1 := ⟨_, rfl⟩
          rw [← hE] at HRW HWW
          clear hE
          obtain ⟨R, hR⟩ : ∃ R, R = readU E := ⟨_, rfl⟩
          obtain ⟨s2, hs2⟩ : ∃ s, s = R.1 := ⟨_, rfl⟩
          obtain ⟨e2, he2⟩ : ∃ e, e = R.2 := ⟨_, rfl⟩
          have HR2 := Aside0.mk (show readU E = (s2, e2) by rw [← hR, hs2, he2])
          clear hR hs2 he2
          go_wp2_with fail
          have hr := sread_any HRW.out.pair.pd (by have := HWW.out; omega)
          rw [HR2.out] at hr
          refine hr.mono ?_
          clear hr
          rintro e w12 ⟨rfl, p12, f12⟩
          replace HZ := Aside0.mk (keepSP HRW.out.pair.pd f12 HZ.out)
          replace HT1 := Aside0.mk (keepSP HRW.out.pair.pd f12 HT1.out)
          replace HT2 := Aside0.mk (keepSP HRW.out.pair.pd f12 HT2.out)
          replace HRW := Aside0.mk (HRW.out.prog f12 p12)
          clear p12 f12
          go_wp2_with fail
          obtain ⟨w13, hw13⟩ : ∃ z, z = w12.alloc (.cells (sixU s2.g s2.b s2.l s2.p s2.q s2.o) 25) := ⟨_, rfl⟩
          have bw13 : Below w12.heap.size w12 w13 := by rw [hw13]; exact (Below.refl _ _).alloc (Nat.le_refl _) _
          have HT3 := Aside0.mk (show Sup w13 w12.heap.size s2 by rw [hw13]; exact heap_alloc_new w12 _)
          obtain ⟨uw13, huw13⟩ : ∃ u, u = w12.heap.size := ⟨_, rfl⟩
          rw [← hw13, ← huw13]
          rw [← huw13] at HT3
          replace HRW := Aside0.mk (HRW.out.step bw13)
          replace HZ := Aside0.mk (HZ.out.step bw13)
          replace HT1 := Aside0.mk (HT1.out.step bw13)
          replace HT2 := Aside0.mk (HT2.out.step bw13)
          clear hw13 bw13 huw13
          have hr := xsread_any HRW.out.pair.rd (by have := HWW.out; omega)
          rw [HR2.out] at hr
          refine hr.mono ?_
          clear hr
          rintro e w14 ⟨rfl, p14, f14⟩
          replace HT1 := Aside0.mk (keepSX HRW.out.pair.rd f14 HT1.out)
          replace HT2 := Aside0.mk (keepSX HRW.out.pair.rd f14 HT2.out)
          replace HT3 := Aside0.mk (keepSX HRW.out.pair.rd f14 HT3.out)
          replace HRW := Aside0.mk (HRW.out.doc f14 p14)
          clear p14 f14 HZ
          go_upto_region 17 with (fail)
          obtain ⟨w15, hw15⟩ : ∃ z, z = w14.alloc (.cells (sixU s2.g s2.b s2.l s2.p s2.q s2.o) 25) := ⟨_, rfl⟩
          have bw15 : Below w14.heap.size w14 w15 := by rw [hw15]; exact (Below.refl _ _).alloc (Nat.le_refl _) _
          have HT4 := Aside0.mk (show Sup w15 w14.heap.size s2 by rw [hw15]; exact heap_alloc_new w14 _)
          obtain ⟨uw15, huw15⟩ : ∃ u, u = w14.heap.size := ⟨_, rfl⟩
          rw [← hw15, ← huw15]
          rw [← huw15] at HT4
          replace HRW := Aside0.mk (HRW.out.step bw15)
          replace HT1 := Aside0.mk (HT1.out.step bw15)
          replace HT2 := Aside0.mk (HT2.out.step bw15)
          replace HT3 := Aside0.mk (HT3.out.step bw15)
          clear hw15 bw15 huw15
          have h1 := eq_self s1
          have h2 := eq_self s2
          have h3 : (e1 == e1) = true := by simp
          have h4 : (q == q) = true := by simp
          have h5 : (e2 == e2) = true := by simp
          obtain ⟨⟨a0, a1, a2, a3, a4, a5⟩, _⟩ := cells6 HT1.out
          obtain ⟨⟨b0, b1, b2, b3, b4, b5⟩, _⟩ := cells6 HT2.out
          obtain ⟨⟨d0, d1, d2, d3, d4, d5⟩, _⟩ := cells6 HT3.out
          obtain ⟨⟨k0, k1, k2, k3, k4, k5⟩, _⟩ := cells6 HT4.out
          go_wp2_with fail
          refine (Disk.alike_any (show Disk.Both w15 w.heap.size db sb xb (readDk E) from ⟨HRW.out.pair.pd, HRW.out.pair.rd, HRW.out.pair.bs⟩) (by rw [readDk_waits]; have := HWW.out; omega)).mono ?_
          rintro e w16 ⟨rfl, b16⟩
          have HBE := Aside0.mk (below_steps HRW.out.bel b16)
          clear b16 a0 a1 a2 a3 a4 a5 b0 b1 b2 b3 b4 b5 d0 d1 d2 d3 d4 d5 k0 k1 k2 k3 k4 k5
          go_wp2_with fail
          refine (awake_any _).mono ?_
          rintro e w17 ⟨rfl, b17⟩
          replace HBE := Aside0.mk (below_steps HBE.out b17)
          clear b17
          go_wp2_with fail
          go_ret
          exact ⟨rfl, HBE.out⟩
end Supr
end Go.Proofs.Ytopfjmeejpamjaa
end
