/- Part 23 of the proof of ChainWrites: lemmas alone. -/
import Derived.Test.YtclneeamemofoaaGreatZChainWritesP21
import Derived.Test.YtclneeamemofoaaGreatZChainWritesP19
import Derived.Test.YtclneeamemofoaaGreatZChainWritesP3
section
namespace Go.Proofs.YtclneeamemofoaaGreat
set_option linter.unusedVariables false
set_option linter.unusedSimpArgs false
open Go.RowKit Go.Proofs.YtclneeamemofoaaGreatW.PrintWords Go.Proofs.YtclneeamemofoaaGreatW.PrintLast Go.Proofs.YtclneeamemofoaaGreatW.PrintMore
namespace Ch
open Go.Disk Go.Proofs.YtclneeamemofoaaGreat.Disk
structure PW (w0 w : World) (db sb xb : Nat) (D X : Dk) : Prop where
  pr : Pair w w0.heap.size db sb xb D X
  bel : Below w0.heap.size w0 w
theorem PW.step {w0 w w' : World} {db sb xb : Nat} {D X : Dk} (h : PW w0 w db sb xb D X) (f : Below w.heap.size w w') : PW w0 w' db sb xb D X :=
  ⟨h.pr.below f, h.bel.trans (f.mono h.bel.size)⟩
theorem PW.prog {w0 w w' : World} {db sb xb : Nat} {D D' X : Dk} (h : PW w0 w db sb xb D X) (p : PD w' w0.heap.size db sb D') (f : FP w0.heap.size db sb w w') : PW w0 w' db sb xb D' X :=
  ⟨⟨p, h.pr.fp f, Nat.le_trans h.pr.bs f.size⟩, h.bel.trans (Disk.FP.below f h.pr.low.1 h.pr.low.2.1 h.bel.size)⟩
theorem PW.doc {w0 w w' : World} {db sb xb : Nat} {D X X' : Dk} (h : PW w0 w db sb xb D X) (p : RD w' w0.heap.size sb xb X') (f : FX w0.heap.size xb w w') : PW w0 w' db sb xb D X' :=
  ⟨⟨h.pr.pd.fx h.pr.rd f, p, Nat.le_trans h.pr.bs f.size⟩, h.bel.trans (FB.below (db := db) (sb := sb) (FB.of_fx f) h.pr.low.1 h.pr.low.2.1 h.pr.low.2.2 h.bel.size)⟩
theorem PW.pfar {w0 w w' : World} {db sb xb : Nat} {D X : Dk} (h : PW w0 w db sb xb D X) (f : FP w0.heap.size db sb w w') : Below w0.heap.size w0 w' := h.bel.trans (Disk.FP.below f h.pr.low.1 h.pr.low.2.1 h.bel.size)
theorem PW.xfar {w0 w w' : World} {db sb xb : Nat} {D X : Dk} (h : PW w0 w db sb xb D X) (f : FX w0.heap.size xb w w') : Below w0.heap.size w0 w' := h.bel.trans (FB.below (db := db) (sb := sb) (FB.of_fx f) h.pr.low.1 h.pr.low.2.1 h.pr.low.2.2 h.bel.size)
theorem PW.both {w0 w : World} {db sb xb : Nat} {D : Dk} (h : PW w0 w db sb xb D D) : Both w w0.heap.size db sb xb D := ⟨h.pr.pd, h.pr.rd, h.pr.bs⟩
theorem PW.of {w0 w w' : World} {db sb xb : Nat} {D X E : Dk} (h : PW w0 w db sb xb D X) (b : Both w' w0.heap.size db sb xb E) (f : FB w0.heap.size db sb xb w w') : PW w0 w' db sb xb E E :=
  ⟨⟨b.pd, b.rd, b.bs⟩, h.bel.trans (FB.below f h.pr.low.1 h.pr.low.2.1 h.pr.low.2.2 h.bel.size)⟩
theorem chW_waits (D : Dk) (o : Int) (p t : List Int) : (chW D o p t).1.waits.length ≤ D.waits.length + p.length := by
  unfold chW
  split
  · exact Nat.le_add_right _ _
  · split
    · split
      · exact wr_waits o p t D p.length
      · exact wr_waits o p t D p.length
    · exact Nat.le_add_right _ _
theorem RQ_of {w : World} {base sb xb : Nat} {D : Dk} (h : RD w base sb xb D) : RQ w base sb xb D (fun _ => False) := by
  obtain ⟨vs, vw, h⟩ := h
  exact ⟨vs, vw, h, ⟨fun k hk => hk.elim, fun k _ hk => hk.elim, fun hk => hk.elim⟩⟩
theorem PW.three {w0 w w' : World} {db sb xb ub : Nat} {D X : Dk} {a0 a1 a2 v0 v1 v2 : Value} (h : PW w0 w db sb xb D X) (hu : w.heap[ub]? = some (.cells #[a0, a1, a2] 35 (0, 0))) (hl : w0.heap.size ≤ ub) (hw : w' = ((w.setCell ⟨ub, 0, none⟩ v0).setCell ⟨ub, 1, none⟩ v1).setCell ⟨ub, 2, none⟩ v2) : PW w0 w' db sb xb D X ∧ w'.heap[ub]? = some (.cells #[v0, v1, v2] 35 (0, 0)) := by
  rw [hw]
  exact ⟨⟨⟨PD_three h.pr.pd hu (by decide) _ _ _, (RQ_three (RQ_of h.pr.rd) hu (by decide) _ _ _).rd, by simpa [World.setCell] using h.pr.bs⟩, three_below h.bel hl _ _ _⟩, three_set hu _ _ _⟩
theorem three_other {w w' : World} {ub qb : Nat} {v0 v1 v2 : Value} {o : Obj} (h : w.heap[qb]? = some o) (hne : ub ≠ qb) (hw : w' = ((w.setCell ⟨ub, 0, none⟩ v0).setCell ⟨ub, 1, none⟩ v1).setCell ⟨ub, 2, none⟩ v2) : w'.heap[qb]? = some o := by
  rw [hw, Below.heap_setCell _ _ _ _ (Ne.symm hne), Below.heap_setCell _ _ _ _ (Ne.symm hne), Below.heap_setCell _ _ _ _ (Ne.symm hne)]
  exact h
theorem text_at {w0 : World} {A : Option Addr} {ls : List Tx} (h : Kd.C kTx w0 A ls.length ls) (i : Nat) (hi : i < ls.length) :
    ∃ (ad : Addr) (A1 : Option Addr) (c1 : Nat) (A2 : Option Addr) (c2 : Nat), A = some ad ∧ (∀ x, Below w0.heap.size w0 x → x.cell? (ad.add (i * 3)) = some (.int .i64 ls[i].f0) ∧ x.cell? ⟨(ad.add (i * 3)).block, (ad.add (i * 3)).off + 1, none⟩ = some (.slice A1 ls[i].f1.length c1) ∧ x.cell? ⟨(ad.add (i * 3)).block, (ad.add (i * 3)).off + 2, none⟩ = some (.slice A2 ls[i].f2.length c2)) ∧ ls[i].f1.length ≤ c1 ∧ ls[i].f2.length ≤ c2 ∧ Kd.C (Kd.int .i64) w0 A1 ls[i].f1.length ls[i].f1 ∧ Kd.C (Kd.int .u8) w0 A2 ls[i].f2.length ls[i].f2 := by
  obtain ⟨ad, A1, c1, A2, c2, rfl, h0, h1, h2, l1, g1, l2, g2⟩ := PChain.at_T41 h (i : Int) (by omega) (by omega)
  rw [Int.toNat_natCast] at h0 h1 h2
  rw [rdT_mem ls i hi] at h0 h1 h2 l1 g1 l2 g2
  exact ⟨ad, A1, c1, A2, c2, rfl, fun x hx => ⟨pw_cell_below hx h0, pw_cell_below hx h1, pw_cell_below hx h2⟩, l1, l2, g1, g2⟩
set_option maxHeartbeats 64000000 in
set_option maxRecDepth 100000 in
theorem writes_walk {w : World} (A0 : Option Addr) (c0 : Nat) (ls : List Tx) (hl : Kd.C kTx w A0 ls.length ls) (hlc : ls.length ≤ c0) (hlb : ∀ y ∈ ls, ∀ z ∈ y.f2, 0 ≤ z ∧ z ≤ 255) (A1 : Option Addr) (c1 : Nat) (ys : List PChain.S45) (hy : Came w A1 ys) (hyc : ys.length ≤ c1) :
    Calls Tryz.prog 3 #[.slice A0 ls.length c0, .slice A1 ys.length c1] w fun e w' => e = .returned (.bool true) ∧ Below w.heap.size w w' := by
  have HL := Aside0.mk hl
  have HLB := Aside0.mk hlb
  have HY := Aside0.mk hy
  have HBL := Aside0.mk (blank_yes 16 w (by omega))
  rw [show ((16 : Nat) : Int) = 16 from rfl] at HBL
  clear hl hlb hy
  go_enter Tryz.func3, Tryz.ntmps3
  go_wp2_with fail
  refine HBL.out.mono ?_
  clear HBL
  rintro r w1 ⟨db, sb, rfl, hp1, b1⟩
  have HP1 := Aside0.mk hp1
  have HB1 := Aside0.mk b1
  have HSL := Aside0.mk (pd_lt hp1)
  clear hp1 b1
  have HXB := Aside0.mk (xblank_yes 16 w1 sb HSL.out.2.1 (by omega))
  rw [show ((16 : Nat) : Int) = 16 from rfl] at HXB
  go_wp2_with fail
  refine HXB.out.mono ?_
  clear HXB
  rintro r w2 ⟨xb, rfl, hp2, b2⟩
  have HPW := Aside0.mk (show PW w w2 db sb xb (blankD 16) (blankD 16) from ⟨⟨HP1.out.below b2, by
      obtain ⟨vs, vw, hx⟩ := hp2
      have hs := HB1.out.size
      exact ⟨vs, vw, ⟨hx.ok, Nat.le_trans hs hx.xbase, hx.slt, fun k hk => Nat.le_trans hs (hx.sown k hk), fun k hk => Nat.le_trans hs (hx.wown k hk), hx.cells, hx.safe, hx.waits⟩⟩, Nat.le_trans HB1.out.size b2.size⟩, HB1.out.trans (b2.mono HB1.out.size)⟩)
  clear hp2 b2 HP1 HB1 HSL
  have HFE := Aside0.mk (few_any (w := w2) A0 c0 ls (Kd.C_below HL.out HPW.out.bel) hlc)
  go_wp2_with fail
  refine HFE.out.mono ?_
  clear HFE
  rintro r w3 ⟨r3, rfl, hr3, b3⟩
  have HPW3 := Aside0.mk (HPW.out.step b3)
  clear b3 HPW
  cases r3 with
  | false =>
    clear hr3
    go_wp2_with fail
    refine (awake_any (w := w3)).mono ?_
    rintro r wz ⟨rfl, bz⟩
    go_wp2_with fail
    go_ret
    exact ⟨rfl, (HPW3.out.step bz).bel⟩
  | true =>
    have HSM := Aside0.mk (hr3 rfl)
    clear hr3
    have HFD := Aside0.mk (Disk.few_any (w := w3) A1 c1 ys (Kd.C_below HY.out.row HPW3.out.bel) hyc)
    go_wp2_with fail
    refine HFD.out.mono ?_
    clear HFD
    rintro r w4 ⟨r4, rfl, H40, b4⟩
    have HPW4 := Aside0.mk (HPW3.out.step b4)
    clear b4 HPW3
    cases r4 with
    | false =>
      clear H40
      go_wp2_with fail
      refine (awake_any (w := w4)).mono ?_
      rintro r wz ⟨rfl, bz⟩
      go_wp2_with fail
      go_ret
      exact ⟨rfl, (HPW4.out.step bz).bel⟩
    | true =>
      have HF := Aside0.mk (show ys.length ≤ 40 from H40.out rfl)
      clear H40
      obtain ⟨N, hN⟩ : ∃ N, N = max ls.length ys.length := ⟨_, rfl⟩
      have HN := Aside0.mk hN
      have HD0 := Aside0.mk (show (blankD 16).waits.length ≤ 13 * 0 from Nat.le_refl 0)
      obtain ⟨D0, hD0⟩ : ∃ D0, D0 = blankD 16 := ⟨_, rfl⟩
      rw [← hD0] at HPW4 HD0
      clear hN hD0
      go_wp2_with fail
      go_loopg [9] N (fun gk v9 wr => ∃ (i : Nat) (D : Dk), Aside0 (i + gk = N) ∧ v9 = .int .i64 i ∧ Aside0 (D.waits.length ≤ 13 * i) ∧ Aside0 (PW w wr db sb xb D D))
      case atStart => exact ⟨0, D0, ⟨by omega⟩, rfl, HD0, HPW4⟩
      case round =>
        clear HPW4 HD0
        obtain ⟨i, D, HI, rfl, HW, HP⟩ := hrel
        by_cases hin : i < N
        · by_cases hil : i < ls.length
          · have hil' : (i : Int) < (ls.length : Int) := by omega
            obtain ⟨ad, A2, c2, A3, c3, rfl, hcells, l1, l2, g1, g2⟩ := text_at HL.out i hil
            have hsm := HSM.out.2 i hil
            have hby := HLB.out ls[i] (List.getElem_mem hil)
            obtain ⟨⟨o, p, t⟩, hx⟩ : ∃ x, x = ls[i] := ⟨_, rfl⟩
            rw [← hx] at hcells l1 l2 g1 g2 hsm hby
            have HCE := Aside0.mk hcells
            have L1 := Aside0.mk l1
            have L2 := Aside0.mk l2
            have G1 := Aside0.mk g1
            have G2 := Aside0.mk g2
            have HS := Aside0.mk (show p.length ≤ 12 ∧ t.length ≤ 1500 from hsm)
            have HBY := Aside0.mk (show ∀ z ∈ t, 0 ≤ z ∧ z ≤ 255 from hby)
            replace HCE := Aside0.mk (show ∀ x, Below w.heap.size w x → x.cell? (ad.add (i * 3)) = some (.int .i64 o) ∧ x.cell? ⟨(ad.add (i * 3)).block, (ad.add (i * 3)).off + 1, none⟩ = some (.slice A2 p.length c2) ∧ x.cell? ⟨(ad.add (i * 3)).block, (ad.add (i * 3)).off + 2, none⟩ = some (.slice A3 t.length c3) from HCE.out)
            replace L1 := Aside0.mk (show p.length ≤ c2 from L1.out)
            replace L2 := Aside0.mk (show t.length ≤ c3 from L2.out)
            replace G1 := Aside0.mk (show Kd.C (Kd.int .i64) w A2 p.length p from G1.out)
            replace G2 := Aside0.mk (show Kd.C (Kd.int .u8) w A3 t.length t from G2.out)
            clear hcells l1 l2 g1 g2 hsm hby hx
            obtain ⟨CW, hCW⟩ : ∃ CW, CW = chW D o p t := ⟨_, rfl⟩
            obtain ⟨⟨u0, u1, u2⟩, hu⟩ : ∃ u, u = CW.2.1 := ⟨_, rfl⟩
            obtain ⟨ec, hec⟩ : ∃ ec, ec = CW.2.2 := ⟨_, rfl⟩
            obtain ⟨E, hE⟩ : ∃ E, E = CW.1 := ⟨_, rfl⟩
            have HCW := Aside0.mk (show chW D o p t = (E, (u0, u1, u2), ec) by rw [← hCW, hE, hec, hu])
            have HEW := Aside0.mk (show E.waits.length ≤ 13 * i + 12 by
              have q := chW_waits D o p t
              rw [← hCW, ← hE] at q
              have := HW.out
              have := HS.out
              omega)
            have HI48 := Aside0.mk (show i ≤ 48 by have := HSM.out.1; omega)
            clear hCW hu hec hE
            go_upto_region 9 with (fail)
            go_cut [10, 11] from 51 to 70 (fun v10 v11 wc => ∃ ub : Nat, v10 = .pointer (some ⟨ub, 0, none⟩) ∧ v11 = .int .i64 ec ∧ Aside0 (PW w wc db sb xb E D) ∧ Aside0 (wc.heap[ub]? = some (.cells #[.int .i64 u0, .int .i64 u1, .int .i64 u2] 35 (0, 0))))
            case first =>
              refine Go.Reg.region_fork (Below w.heap.size w) [.s, .s, .s, .s, .s, .s, .s, .s, .s, .s, .s, .s, .s, .s, .s, .s, .w, .p, .p, .p, .w, .x, .p] [0, 1, 2, 3, 4, 5, 6, 7, 8, 9, 10, 11, 12, 13, 14, 15] 16 20 [17, 18, 19, 20, 21, 22] [16, 17, 18, 19, 21, 22] (by kernel_rfl) (by kernel_rfl) (HP.out.step (below_drew1 (Below.refl _ _))).bel (fun ne => ?_)
              have hm0 : ∀ m : Go.Reg.In (Below w.heap.size w), m.w.cell? (ad.add (i * 3)) = some (.int .i64 o) := fun m => (HCE.out _ m.h).1
              have hm1 : ∀ m : Go.Reg.In (Below w.heap.size w), m.w.cell? ⟨(ad.add (i * 3)).block, (ad.add (i * 3)).off + 1, none⟩ = some (.slice A2 p.length c2) := fun m => (HCE.out _ m.h).2.1
              have hm2 : ∀ m : Go.Reg.In (Below w.heap.size w), m.w.cell? ⟨(ad.add (i * 3)).block, (ad.add (i * 3)).off + 2, none⟩ = some (.slice A3 t.length c3) := fun m => (HCE.out _ m.h).2.2
              dsimp only [Go.Reg.pick, List.filterMap, List.map, List.getD_eq_getElem?_getD]
              simp only [List.getElem?_toArray, List.getElem?_cons_zero, List.getElem?_cons_succ, List.filterMap_cons, List.filterMap_nil, Option.getD_some]
              refine Go.Reg.lex_q 16 _ _ _ _ (by rfl) ?_; simp only [List.take_succ_cons, List.take_zero, List.drop_succ_cons, List.drop_zero]; (repeat (go_big_quiet_step (rfl))); refine wpQuiet_nil ?_
              refine Go.Reg.lex_nil ?_
              clear hm0 hm1 hm2
              obtain ⟨wd, hwd⟩ : ∃ wd, wd = wr.drew := ⟨_, rfl⟩
              have HPD := Aside0.mk (show PW w wd db sb xb D D by rw [hwd]; exact HP.out.step (below_drew1 (Below.refl _ _)))
              skip
              rw [← hwd]
              clear hwd
              refine ⟨?_, ?_, fun o ho => ?_⟩
              · refine Go.Reg.step_w (fun KK hKK => ?_)
                go_wp2_with fail
                have hcw := cwrite_any HPD.out.pr.pd o A2 c2 p A3 c3 t (fun x hx => Kd.C_below G1.out (HPD.out.pfar hx)) (Kd.C_below G2.out HPD.out.bel) L1.out L2.out HBY.out (by have := HS.out; omega) (by have := HS.out; omega) (by have := HW.out; have := HI48.out; omega)
                rw [HCW.out] at hcw
                simp only [partV] at hcw
                refine hcw.mono ?_
                clear hcw
                rintro z w5 ⟨rfl, hp5, hf5⟩
                have HP5 := Aside0.mk (HPD.out.prog hp5 hf5)
                skip
                clear hp5 hf5
                go_wp2_with fail
                refine hKK.out _ _ HP5.out.bel ?_
                clear hKK KK
                refine Go.Reg.lex_qp 3 _ _ _ _ _ (by rfl) ?_; simp only [List.take_succ_cons, List.take_zero, List.drop_succ_cons, List.drop_zero]; (repeat (go_big_quiet_step (rfl))); refine wpQuiet_nil ?_
                refine Go.Reg.step_w (fun KK hKK => ?_)
                go_wp2_with fail
                obtain ⟨w6, hw6⟩ : ∃ w6, w6 = w5.alloc (.cells #[.int .i64 0, .int .i64 0, .int .i64 0] 35) := ⟨_, rfl⟩
                have hal : Below w5.heap.size w5 w6 := by rw [hw6]; exact (Below.refl _ _).alloc (Nat.le_refl _) _
                obtain ⟨ub, hub⟩ : ∃ ub, ub = w5.heap.size := ⟨_, rfl⟩
                have HNB := Aside0.mk (show w6.heap[ub]? = some (.cells #[.int .i64 0, .int .i64 0, .int .i64 0] 35 (0, 0)) by rw [hw6, hub]; exact heap_alloc_new w5 _)
                have HUL := Aside0.mk (show w.heap.size ≤ ub by rw [hub]; exact HP5.out.bel.size)
                have HP6 := Aside0.mk (HP5.out.step hal)
                skip
                rw [← hw6, ← hub]
                clear hw6 hal hub
                refine hKK.out _ _ HP6.out.bel ?_
                clear hKK KK
                obtain ⟨⟨e0, e1, e2⟩, g0, g1, g2⟩ := cells3 HNB.out
                refine Go.Reg.step_x (by rfl) (fun KK hKK => ?_)
                go_wp2_with fail
                refine hKK.out _ _ ?_
                clear hKK KK
                try simp only [Act.put, List.setIfInBounds_toArray, List.set_cons_succ, List.set_cons_zero]
                refine Go.Reg.lex_qp 1 _ _ _ _ _ (by rfl) ?_; simp only [List.take_succ_cons, List.take_zero, List.drop_succ_cons, List.drop_zero]; (repeat (go_big_quiet_step (rfl))); refine wpQuiet_nil ?_
                refine Go.Reg.lex_nil ?_
                clear e0 e1 e2 g0 g1 g2
                obtain ⟨w7, hw7⟩ : ∃ w7, w7 = ((w6.setCell ⟨ub, 0, none⟩ (.int .i64 u0)).setCell ⟨ub, 1, none⟩ (.int .i64 u1)).setCell ⟨ub, 2, none⟩ (.int .i64 u2) := ⟨_, rfl⟩
                obtain ⟨hq1, hq2⟩ := HP6.out.three HNB.out HUL.out hw7
                skip
                rw [← hw7]
                clear hw7
                go_wp2_with fail
                go_meet
                case rel => exact ⟨ub, rfl, rfl, ⟨hq1⟩, ⟨hq2⟩⟩
              · refine Go.Reg.step_w (fun KK hKK => ?_)
                go_wp2_with fail
                obtain ⟨w5, hw5⟩ : ∃ w5, w5 = wd.alloc (.cells #[.int .i64 0, .int .i64 0, .int .i64 0] 35) := ⟨_, rfl⟩
                have hal : Below wd.heap.size wd w5 := by rw [hw5]; exact (Below.refl _ _).alloc (Nat.le_refl _) _
                obtain ⟨ub, hub⟩ : ∃ ub, ub = wd.heap.size := ⟨_, rfl⟩
                have HNB5 := Aside0.mk (show w5.heap[ub]? = some (.cells #[.int .i64 0, .int .i64 0, .int .i64 0] 35 (0, 0)) by rw [hw5, hub]; exact heap_alloc_new wd _)
                have HUL := Aside0.mk (show w.heap.size ≤ ub by rw [hub]; exact HPD.out.bel.size)
                have HPE := Aside0.mk (HPD.out.step hal)
                skip
                rw [← hw5, ← hub]
                clear hw5 hal hub
                refine hKK.out _ _ HPE.out.bel ?_
                clear hKK KK
                refine Go.Reg.step_w (fun KK hKK => ?_)
                go_wp2_with fail
                have hcw := cwrite_any HPE.out.pr.pd o A2 c2 p A3 c3 t (fun x hx => Kd.C_below G1.out (HPE.out.pfar hx)) (Kd.C_below G2.out HPE.out.bel) L1.out L2.out HBY.out (by have := HS.out; omega) (by have := HS.out; omega) (by have := HW.out; have := HI48.out; omega)
                rw [HCW.out] at hcw
                simp only [partV] at hcw
                refine hcw.mono ?_
                clear hcw
                rintro z w6 ⟨rfl, hp5, hf5⟩
                have HP6 := Aside0.mk (HPE.out.prog hp5 hf5)
                have HNB := Aside0.mk (keep_fp HPE.out.pr.pd hf5 HNB5.out (by decide))
                skip
                clear hp5 hf5
                go_wp2_with fail
                refine hKK.out _ _ HP6.out.bel ?_
                clear hKK KK
                refine Go.Reg.lex_qp 3 _ _ _ _ _ (by rfl) ?_; simp only [List.take_succ_cons, List.take_zero, List.drop_succ_cons, List.drop_zero]; (repeat (go_big_quiet_step (rfl))); refine wpQuiet_nil ?_
                obtain ⟨⟨e0, e1, e2⟩, g0, g1, g2⟩ := cells3 HNB.out
                refine Go.Reg.step_x (by rfl) (fun KK hKK => ?_)
                go_wp2_with fail
                refine hKK.out _ _ ?_
                clear hKK KK
                try simp only [Act.put, List.setIfInBounds_toArray, List.set_cons_succ, List.set_cons_zero]
                refine Go.Reg.lex_qp 1 _ _ _ _ _ (by rfl) ?_; simp only [List.take_succ_cons, List.take_zero, List.drop_succ_cons, List.drop_zero]; (repeat (go_big_quiet_step (rfl))); refine wpQuiet_nil ?_
                refine Go.Reg.lex_nil ?_
                clear e0 e1 e2 g0 g1 g2
                obtain ⟨w7, hw7⟩ : ∃ w7, w7 = ((w6.setCell ⟨ub, 0, none⟩ (.int .i64 u0)).setCell ⟨ub, 1, none⟩ (.int .i64 u1)).setCell ⟨ub, 2, none⟩ (.int .i64 u2) := ⟨_, rfl⟩
                obtain ⟨hq1, hq2⟩ := HP6.out.three HNB.out HUL.out hw7
                skip
                rw [← hw7]
                clear hw7
                go_wp2_with fail
                go_meet
                case rel => exact ⟨ub, rfl, rfl, ⟨hq1⟩, ⟨hq2⟩⟩
              · rcases ho with ho | ho <;> (cases ho; rfl)
            case rest =>
              obtain ⟨qb, rfl, rfl, HP8, HQ8⟩ := hcut
              obtain ⟨w8, hw8⟩ : ∃ w8, w8 = wc := ⟨_, rfl⟩
              rw [← hw8] at HP8 HQ8 ⊢
              clear hw8 HP
              go_upto_region 10 with (fail)
              go_cut [12, 13] from 71 to 90 (fun v12 v13 wc => ∃ ub : Nat, v12 = .pointer (some ⟨ub, 0, none⟩) ∧ v13 = .int .i64 ec ∧ Aside0 (PW w wc db sb xb E E) ∧ Aside0 (wc.heap[ub]? = some (.cells #[.int .i64 u0, .int .i64 u1, .int .i64 u2] 35 (0, 0))) ∧ Aside0 (wc.heap[qb]? = some (.cells #[.int .i64 u0, .int .i64 u1, .int .i64 u2] 35 (0, 0))))
              case first =>
                refine Go.Reg.region_fork (Below w.heap.size w) [.s, .s, .s, .s, .s, .s, .s, .s, .s, .s, .s, .s, .s, .s, .s, .s, .w, .p, .p, .p, .w, .x, .p] [0, 1, 2, 3, 4, 5, 6, 7, 8, 9, 10, 11, 12, 13, 14, 15] 16 20 [17, 18, 19, 20, 21, 22] [16, 17, 18, 19, 21, 22] (by kernel_rfl) (by kernel_rfl) (HP8.out.step (below_drew1 (Below.refl _ _))).bel (fun ne => ?_)
                have hm0 : ∀ m : Go.Reg.In (Below w.heap.size w), m.w.cell? (ad.add (i * 3)) = some (.int .i64 o) := fun m => (HCE.out _ m.h).1
                have hm1 : ∀ m : Go.Reg.In (Below w.heap.size w), m.w.cell? ⟨(ad.add (i * 3)).block, (ad.add (i * 3)).off + 1, none⟩ = some (.slice A2 p.length c2) := fun m => (HCE.out _ m.h).2.1
                have hm2 : ∀ m : Go.Reg.In (Below w.heap.size w), m.w.cell? ⟨(ad.add (i * 3)).block, (ad.add (i * 3)).off + 2, none⟩ = some (.slice A3 t.length c3) := fun m => (HCE.out _ m.h).2.2
                dsimp only [Go.Reg.pick, List.filterMap, List.map, List.getD_eq_getElem?_getD]
                simp only [List.getElem?_toArray, List.getElem?_cons_zero, List.getElem?_cons_succ, List.filterMap_cons, List.filterMap_nil, Option.getD_some]
                refine Go.Reg.lex_q 16 _ _ _ _ (by rfl) ?_; simp only [List.take_succ_cons, List.take_zero, List.drop_succ_cons, List.drop_zero]; (repeat (go_big_quiet_step (rfl))); refine wpQuiet_nil ?_
                refine Go.Reg.lex_nil ?_
                clear hm0 hm1 hm2
                obtain ⟨wd, hwd⟩ : ∃ wd, wd = w8.drew := ⟨_, rfl⟩
                have HPD := Aside0.mk (show PW w wd db sb xb E D by rw [hwd]; exact HP8.out.step (below_drew1 (Below.refl _ _)))
                have HQD := Aside0.mk (show wd.heap[qb]? = some (.cells #[.int .i64 u0, .int .i64 u1, .int .i64 u2] 35 (0, 0)) by rw [hwd]; exact HQ8.out)
                rw [← hwd]
                clear hwd
                refine ⟨?_, ?_, fun o ho => ?_⟩
                · refine Go.Reg.step_w (fun KK hKK => ?_)
                  go_wp2_with fail
                  have hcw := xcwrite_any HPD.out.pr.rd o A2 c2 p A3 c3 t (fun x hx => Kd.C_below G1.out (HPD.out.xfar hx)) (F_low (Kd.C_F (Kd.heap_int _) G2.out) (fun k hk hlt => HPD.out.bel.block k hk) HPD.out.bel.size) L1.out L2.out HBY.out (by have := HS.out; omega) (by have := HS.out; omega) (by have := HW.out; have := HI48.out; omega)
                  rw [HCW.out] at hcw
                  simp only [partV] at hcw
                  refine hcw.mono ?_
                  clear hcw
                  rintro z w5 ⟨rfl, hp5, hf5⟩
                  have HP5 := Aside0.mk (HPD.out.doc hp5 hf5)
                  have HQ5 := Aside0.mk (keep_fx HPD.out.pr.rd hf5 HQD.out (by decide))
                  clear hp5 hf5
                  go_wp2_with fail
                  refine hKK.out _ _ HP5.out.bel ?_
                  clear hKK KK
                  refine Go.Reg.lex_qp 3 _ _ _ _ _ (by rfl) ?_; simp only [List.take_succ_cons, List.take_zero, List.drop_succ_cons, List.drop_zero]; (repeat (go_big_quiet_step (rfl))); refine wpQuiet_nil ?_
                  refine Go.Reg.step_w (fun KK hKK => ?_)
                  go_wp2_with fail
                  obtain ⟨w6, hw6⟩ : ∃ w6, w6 = w5.alloc (.cells #[.int .i64 0, .int .i64 0, .int .i64 0] 35) := ⟨_, rfl⟩
                  have hal : Below w5.heap.size w5 w6 := by rw [hw6]; exact (Below.refl _ _).alloc (Nat.le_refl _) _
                  obtain ⟨ub, hub⟩ : ∃ ub, ub = w5.heap.size := ⟨_, rfl⟩
                  have HNB := Aside0.mk (show w6.heap[ub]? = some (.cells #[.int .i64 0, .int .i64 0, .int .i64 0] 35 (0, 0)) by rw [hw6, hub]; exact heap_alloc_new w5 _)
                  have HUL := Aside0.mk (show w.heap.size ≤ ub by rw [hub]; exact HP5.out.bel.size)
                  have HP6 := Aside0.mk (HP5.out.step hal)
                  have HQ6 := Aside0.mk ((hal.block _ (blk_lt HQ5.out)).trans HQ5.out)
                  have HNE := Aside0.mk (show ub ≠ qb by have := blk_lt HQ5.out; omega)
                  rw [← hw6, ← hub]
                  clear hw6 hal hub
                  refine hKK.out _ _ HP6.out.bel ?_
                  clear hKK KK
                  obtain ⟨⟨e0, e1, e2⟩, g0, g1, g2⟩ := cells3 HNB.out
                  refine Go.Reg.step_x (by rfl) (fun KK hKK => ?_)
                  go_wp2_with fail
                  refine hKK.out _ _ ?_
                  clear hKK KK
                  try simp only [Act.put, List.setIfInBounds_toArray, List.set_cons_succ, List.set_cons_zero]
                  refine Go.Reg.lex_qp 1 _ _ _ _ _ (by rfl) ?_; simp only [List.take_succ_cons, List.take_zero, List.drop_succ_cons, List.drop_zero]; (repeat (go_big_quiet_step (rfl))); refine wpQuiet_nil ?_
                  refine Go.Reg.lex_nil ?_
                  clear e0 e1 e2 g0 g1 g2
                  obtain ⟨w7, hw7⟩ : ∃ w7, w7 = ((w6.setCell ⟨ub, 0, none⟩ (.int .i64 u0)).setCell ⟨ub, 1, none⟩ (.int .i64 u1)).setCell ⟨ub, 2, none⟩ (.int .i64 u2) := ⟨_, rfl⟩
                  obtain ⟨hq1, hq2⟩ := HP6.out.three HNB.out HUL.out hw7
                  have HQ7 := Aside0.mk (three_other HQ6.out HNE.out hw7)
                  rw [← hw7]
                  clear hw7
                  go_wp2_with fail
                  go_meet
                  case rel => exact ⟨ub, rfl, rfl, ⟨hq1⟩, ⟨hq2⟩, HQ7⟩
                · refine Go.Reg.step_w (fun KK hKK => ?_)
                  go_wp2_with fail
                  obtain ⟨w5, hw5⟩ : ∃ w5, w5 = wd.alloc (.cells #[.int .i64 0, .int .i64 0, .int .i64 0] 35) := ⟨_, rfl⟩
                  have hal : Below wd.heap.size wd w5 := by rw [hw5]; exact (Below.refl _ _).alloc (Nat.le_refl _) _
                  obtain ⟨ub, hub⟩ : ∃ ub, ub = wd.heap.size := ⟨_, rfl⟩
                  have HNB5 := Aside0.mk (show w5.heap[ub]? = some (.cells #[.int .i64 0, .int .i64 0, .int .i64 0] 35 (0, 0)) by rw [hw5, hub]; exact heap_alloc_new wd _)
                  have HUL := Aside0.mk (show w.heap.size ≤ ub by rw [hub]; exact HPD.out.bel.size)
                  have HPE := Aside0.mk (HPD.out.step hal)
                  have HQ5 := Aside0.mk ((hal.block _ (blk_lt HQD.out)).trans HQD.out)
                  have HNE := Aside0.mk (show ub ≠ qb by have := blk_lt HQD.out; omega)
                  rw [← hw5, ← hub]
                  clear hw5 hal hub
                  refine hKK.out _ _ HPE.out.bel ?_
                  clear hKK KK
                  refine Go.Reg.step_w (fun KK hKK => ?_)
                  go_wp2_with fail
                  have hcw := xcwrite_any HPE.out.pr.rd o A2 c2 p A3 c3 t (fun x hx => Kd.C_below G1.out (HPE.out.xfar hx)) (F_low (Kd.C_F (Kd.heap_int _) G2.out) (fun k hk hlt => HPE.out.bel.block k hk) HPE.out.bel.size) L1.out L2.out HBY.out (by have := HS.out; omega) (by have := HS.out; omega) (by have := HW.out; have := HI48.out; omega)
                  rw [HCW.out] at hcw
                  simp only [partV] at hcw
                  refine hcw.mono ?_
                  clear hcw
                  rintro z w6 ⟨rfl, hp5, hf5⟩
                  have HP6 := Aside0.mk (HPE.out.doc hp5 hf5)
                  have HNB := Aside0.mk (keep_fx HPE.out.pr.rd hf5 HNB5.out (by decide))
                  have HQ6 := Aside0.mk (keep_fx HPE.out.pr.rd hf5 HQ5.out (by decide))
                  clear hp5 hf5
                  go_wp2_with fail
                  refine hKK.out _ _ HP6.out.bel ?_
                  clear hKK KK
                  refine Go.Reg.lex_qp 3 _ _ _ _ _ (by rfl) ?_; simp only [List.take_succ_cons, List.take_zero, List.drop_succ_cons, List.drop_zero]; (repeat (go_big_quiet_step (rfl))); refine wpQuiet_nil ?_
                  obtain ⟨⟨e0, e1, e2⟩, g0, g1, g2⟩ := cells3 HNB.out
                  refine Go.Reg.step_x (by rfl) (fun KK hKK => ?_)
                  go_wp2_with fail
                  refine hKK.out _ _ ?_
                  clear hKK KK
                  try simp only [Act.put, List.setIfInBounds_toArray, List.set_cons_succ, List.set_cons_zero]
                  refine Go.Reg.lex_qp 1 _ _ _ _ _ (by rfl) ?_; simp only [List.take_succ_cons, List.take_zero, List.drop_succ_cons, List.drop_zero]; (repeat (go_big_quiet_step (rfl))); refine wpQuiet_nil ?_
                  refine Go.Reg.lex_nil ?_
                  clear e0 e1 e2 g0 g1 g2
                  obtain ⟨w7, hw7⟩ : ∃ w7, w7 = ((w6.setCell ⟨ub, 0, none⟩ (.int .i64 u0)).setCell ⟨ub, 1, none⟩ (.int .i64 u1)).setCell ⟨ub, 2, none⟩ (.int .i64 u2) := ⟨_, rfl⟩
                  obtain ⟨hq1, hq2⟩ := HP6.out.three HNB.out HUL.out hw7
                  have HQ7 := Aside0.mk (three_other HQ6.out HNE.out hw7)
                  rw [← hw7]
                  clear hw7
                  go_wp2_with fail
                  go_meet
                  case rel => exact ⟨ub, rfl, rfl, ⟨hq1⟩, ⟨hq2⟩, HQ7⟩
                · rcases ho with ho | ho <;> (cases ho; rfl)
              case rest =>
                obtain ⟨vb, rfl, rfl, HP9, HQ9, HQQ⟩ := hcut
                obtain ⟨⟨k0, k1, k2⟩, _⟩ := cells3 HQ9.out
                obtain ⟨⟨m0, m1, m2⟩, _⟩ := cells3 HQQ.out
                clear HP8 HQ8
                by_cases hiy : i < ys.length
                · have hiy' : (i : Int) < (ys.length : Int) := by omega
                  obtain ⟨dd, D2, e2, D4, e4, rfl, hdc, he2, he4, hdy, hdN⟩ := Came.at_ HY.out i hiy
                  obtain ⟨⟨K, dn, bs, odd, ms⟩, hy⟩ : ∃ y, y = PChain.rd_T45 ys (i : Int) := ⟨_, rfl⟩
                  rw [← hy] at hdc he2 he4 hdy hdN
                  have HDC := Aside0.mk hdc
                  have HDY := Aside0.mk hdy
                  clear hdc hdy hy
                  have hd0 := (HDC.out _ HP9.out.bel).1
                  have hd1 := (HDC.out _ HP9.out.bel).2.1
                  have hd2 := (HDC.out _ HP9.out.bel).2.2.1
                  have hd3 := (HDC.out _ HP9.out.bel).2.2.2.1
                  have hd4 := (HDC.out _ HP9.out.bel).2.2.2.2.1
                  have HDO := Aside0.mk (do_any HP9.out.both K dn D2 bs e2 odd D4 ms e4 (fun x hx => (HDC.out x (HP9.out.bel.trans hx)).2.2.2.2.2.1) he2 HDY.out (fun x hx => (HDC.out x (HP9.out.bel.trans hx)).2.2.2.2.2.2) he4 hdN (by have := HEW.out; have := HI48.out; omega))
                  have hwd := waits_do E K dn bs odd ms
                  go_wp2_with fail
                  refine HDO.out.mono ?_
                  clear HDO
                  rintro e wz ⟨rfl, p2, f2, hgt⟩
                  have HPZ := Aside0.mk (HP9.out.of p2 f2)
                  have HWZ := Aside0.mk (show (doD E K dn bs odd ms).waits.length ≤ 13 * (i + 1) by have := HEW.out; omega)
                  clear p2 f2 hgt hwd hd0 hd1 hd2 hd3 hd4
                  go_wp2_with fail
                  go_roundg (N - (i + 1))
                  case measure => have := HI.out; omega
                  case rel => exact ⟨i + 1, _, ⟨by have := HI.out; omega⟩, congrArg (Value.int .i64) (up1 i (by have := HI48.out; omega)), HWZ, HPZ⟩
                · have hiy' : ¬ ((i : Int) < (ys.length : Int)) := by omega
                  have HWZ := Aside0.mk (show E.waits.length ≤ 13 * (i + 1) by have := HEW.out; omega)
                  go_wp2_with fail
                  go_roundg (N - (i + 1))
                  case measure => have := HI.out; omega
                  case rel => exact ⟨i + 1, _, ⟨by have := HI.out; omega⟩, congrArg (Value.int .i64) (up1 i (by have := HI48.out; omega)), HWZ, HP9⟩
          · have hil' : ¬ ((i : Int) < (ls.length : Int)) := by omega
            have HI48 := Aside0.mk (show i ≤ 48 by have := HSM.out.1; have := HF.out; have := HN.out; omega)
            have HWI := Aside0.mk (show D.waits.length ≤ 13 * i + 12 by have := HW.out; omega)
            by_cases hiy : i < ys.length
            · have hiy' : (i : Int) < (ys.length : Int) := by omega
              obtain ⟨dd, D2, e2, D4, e4, rfl, hdc, he2, he4, hdy, hdN⟩ := Came.at_ HY.out i hiy
              obtain ⟨⟨K, dn, bs, odd, ms⟩, hy⟩ : ∃ y, y = PChain.rd_T45 ys (i : Int) := ⟨_, rfl⟩
              rw [← hy] at hdc he2 he4 hdy hdN
              have HDC := Aside0.mk hdc
              have HDY := Aside0.mk hdy
              clear hdc hdy hy
              have hd0 := (HDC.out _ HP.out.bel).1
              have hd1 := (HDC.out _ HP.out.bel).2.1
              have hd2 := (HDC.out _ HP.out.bel).2.2.1
              have hd3 := (HDC.out _ HP.out.bel).2.2.2.1
              have hd4 := (HDC.out _ HP.out.bel).2.2.2.2.1
              have HDO := Aside0.mk (do_any HP.out.both K dn D2 bs e2 odd D4 ms e4 (fun x hx => (HDC.out x (HP.out.bel.trans hx)).2.2.2.2.2.1) he2 HDY.out (fun x hx => (HDC.out x (HP.out.bel.trans hx)).2.2.2.2.2.2) he4 hdN (by have := HWI.out; have := HI48.out; omega))
              have hwd := waits_do D K dn bs odd ms
              go_wp2_with fail
              refine HDO.out.mono ?_
              clear HDO
              rintro e wz ⟨rfl, p2, f2, hgt⟩
              have HPZ := Aside0.mk (HP.out.of p2 f2)
              have HWZ := Aside0.mk (show (doD D K dn bs odd ms).waits.length ≤ 13 * (i + 1) by have := HWI.out; omega)
              clear p2 f2 hgt hwd hd0 hd1 hd2 hd3 hd4
              go_wp2_with fail
              go_roundg (N - (i + 1))
              case measure => have := HI.out; omega
              case rel => exact ⟨i + 1, _, ⟨by have := HI.out; omega⟩, congrArg (Value.int .i64) (up1 i (by have := HI48.out; omega)), HWZ, HPZ⟩
            · exfalso; have := HN.out; omega
        · have h1 : ¬ ((i : Int) < (ls.length : Int)) := by have := HN.out; omega
          have h2 : ¬ ((i : Int) < (ys.length : Int)) := by have := HN.out; omega
          have hal := alike_any HP.out.both (by have := HW.out; have := HI.out; have := HN.out; have := HSM.out.1; have := HF.out; omega)
          have HAL := Aside0.mk hal
          clear hal
          go_wp2_with fail
          refine HAL.out.mono ?_
          clear HAL
          rintro r w5 ⟨rfl, b5⟩
          have HP5 := Aside0.mk (HP.out.step b5)
          clear b5 HP
          go_wp2_with fail
          refine (awake_any (w := w5)).mono ?_
          rintro r wz ⟨rfl, bz⟩
          go_wp2_with fail
          go_ret
          exact ⟨rfl, (HP5.out.step bz).bel⟩
end Ch
end Go.Proofs.YtclneeamemofoaaGreat
end
