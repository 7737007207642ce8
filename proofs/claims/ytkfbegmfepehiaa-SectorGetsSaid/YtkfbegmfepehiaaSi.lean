/- Walks: the document's Get of sectors; the law SectorGets. -/
import Derived.Test.YtkfbegmfepehiaaSh
import Derived.Test.YtkfbegmfepehiaaRg
namespace Go.Proofs.Ytkfbegmfepehiaa
set_option linter.unusedVariables false
set_option linter.unusedSimpArgs false
set_option linter.ambiguousOpen false
open Go.RowKit Go.Proofs.YtkfbegmfepehiaaW.PrintWords Go.Proofs.YtkfbegmfepehiaaW.PrintLast Go.Proofs.YtkfbegmfepehiaaW.PrintMore
namespace Sect
open Go.Num Go.Crc Go.Proofs.Ytkfbegmfepehiaa.Cell
/-- What the document's Get keeps. -/
structure GY (w0 w : World) (A : Option Addr) (c : Nat) (own : List Int) : Prop where
  below : Below w0.heap.size w0 w
  zero : w.heap[w0.heap.size]? = some (.cells #[.int .i64 0, .int .i64 0, .int .i64 0, .int .i64 0, .slice none 0 0] 44 (0, 0))
  row : ∀ x, Below w.heap.size w x → Kd.C (Kd.int .u8) x A own.length own
theorem GY.step {w0 w w' : World} {A : Option Addr} {c : Nat} {own : List Int} (h : GY w0 w A c own) (f : Below w.heap.size w w') : GY w0 w' A c own :=
  ⟨h.below.trans (f.mono h.below.size), (f.block _ (blk_lt h.zero)).trans h.zero, fun x hx => h.row x (f.trans (hx.mono f.size))⟩
theorem num1 (own : List Int) (hb : ∀ x ∈ own, 0 ≤ x ∧ x ≤ 255) (i : Nat) (hi : i < own.length) : numP ((own.drop i).take 1) = rd own (i : Int) := by
  have e : (own.drop i).take 1 = [own[i]] := by rw [List.drop_eq_getElem_cons hi]; rfl
  have h1 := unfix1 ((own.drop i).take 1) (by rw [e]; rfl) (take_byte hb i 1)
  unfold numP
  rw [h1.1, e, rd_get i hi]
  simp [unB]
theorem not8_5 (k : Nat) (v : Int) : (#[.int .i64 0, .int .i64 0, .int .i64 0, .int .i64 0, .slice none 0 0] : Array Value)[k]? ≠ some (.int .u8 v) := by
  intro h
  have h' : ([.int .i64 0, .int .i64 0, .int .i64 0, .int .i64 0, .slice none 0 0] : List Value)[k]? = some (.int .u8 v) := by simpa using h
  have := List.mem_of_getElem? h'
  simp at this
set_option maxHeartbeats 16000000 in
set_option maxRecDepth 100000 in
theorem xget_no {w : World} (A : Option Addr) (c : Nat) (l : List Int) (hC : Kd.C (Kd.int .u8) w A l.length l) (hb : ∀ y ∈ l, 0 ≤ y ∧ y ≤ 255) (hc : l.length ≤ c) (hl : l.length ≤ 200000) (hno : l.length ≠ 64 ∨ (openP l).2 ≠ 0) :
    Calls Try.prog 27 #[.slice A l.length c] w fun z w' => ∃ A' c', z = .returned (.tuple #[.agg #[.int .i64 (getS l).1.k, .int .i64 (getS l).1.e, .int .i64 (getS l).1.n, .int .i64 (getS l).1.l, .slice A' (getS l).1.d.length c'], .int .i64 (getS l).2]) ∧ (getS l).1.d.length ≤ c' ∧ (∀ x, Below w'.heap.size w' x → Kd.C (Kd.int .u8) x A' (getS l).1.d.length (getS l).1.d) ∧ Below w.heap.size w w' := by
  have HC := Aside0.mk hC
  have HBY := Aside0.mk hb
  clear hC hb
  obtain ⟨r, hr⟩ : ∃ r, r = getS l := ⟨_, rfl⟩
  rw [← hr]
  by_cases h64 : l.length ≠ 64
  · have HR5 := Aside0.mk (show r = (zeroS, 11) by rw [hr]; unfold getS; rw [if_pos h64])
    have hne : ((l.length : Int) != 64) = true := by simp; omega
    clear hr hno
    go_enter Try.func27, Try.ntmps27
    go_wp2_with fail
    refine bodyPost_ret (results_ct rfl _ _ w.heap.size 44 #[.int .i64 0, .int .i64 0, .int .i64 0, .int .i64 0, .slice none 0 0] (0, 0) _ rfl (heap_alloc_new w _) Try.underlying44 rfl (by kernel_rfl)) rfl ?_
    exact ⟨none, 0, by rw [HR5.out]; rfl, by rw [HR5.out]; exact Nat.le_refl _, fun x hx => by rw [HR5.out]; exact nilC x, (Below.refl _ _).alloc (Nat.le_refl _) _⟩
  · have h2 : l.length = 64 := by omega
    have h12 : (openP l).2 = 12 := by
      rcases open_err l with h | h
      · rcases hno with hn | hn
        · exact absurd h2 hn
        · exact absurd h hn
      · exact h
    have HR5 := Aside0.mk (show r = (zeroS, 12) by rw [hr]; unfold getS; rw [if_neg h64, if_pos (by rw [h12]; decide), h12])
    have HL := Aside0.mk h2
    have H12 := Aside0.mk h12
    rw [h2] at hc hl ⊢
    clear hr hno h64 h2 h12
    go_enter Try.func27, Try.ntmps27
    go_wp2_with fail
    obtain ⟨W, hW⟩ : ∃ W, W = w.alloc (.cells #[.int .i64 0, .int .i64 0, .int .i64 0, .int .i64 0, .slice none 0 0] 44) := ⟨_, rfl⟩
    have HB0 := Aside0.mk (show Below w.heap.size w W by rw [hW]; exact (Below.refl _ _).alloc (Nat.le_refl _) _)
    have HBX := Aside0.mk (show W.heap[w.heap.size]? = some (.cells #[.int .i64 0, .int .i64 0, .int .i64 0, .int .i64 0, .slice none 0 0] 44 (0, 0)) by rw [hW]; exact heap_alloc_new w _)
    rw [← hW]
    clear hW
    have hop := xopen_any A c l W (Kd.C_below HC.out HB0.out) HBY.out (by rw [HL.out]; omega) (by rw [HL.out]; omega)
    rw [HL.out, H12.out] at hop
    refine hop.mono ?_
    clear hop
    rintro e w1 ⟨A1, c1, rfl, _, _, b1⟩
    have HB1 := Aside0.mk (HB0.out.trans (b1.mono HB0.out.size))
    have HX1 := Aside0.mk ((b1.block _ (blk_lt HBX.out)).trans HBX.out)
    clear b1
    have z0 : w1.cell? ⟨w.heap.size, 0, none⟩ = some (.int .i64 0) := cell_blk HX1.out
    have z1 : w1.cell? ⟨w.heap.size, 1, none⟩ = some (.int .i64 0) := cell_blk HX1.out
    have z2 : w1.cell? ⟨w.heap.size, 2, none⟩ = some (.int .i64 0) := cell_blk HX1.out
    have z3 : w1.cell? ⟨w.heap.size, 3, none⟩ = some (.int .i64 0) := cell_blk HX1.out
    have z4 : w1.cell? ⟨w.heap.size, 4, none⟩ = some (.slice none 0 0) := cell_blk HX1.out
    have f0 : w1.frozen? ⟨w.heap.size, 0, none⟩ = false := frozen_blk HX1.out
    have f1 : w1.frozen? ⟨w.heap.size, 1, none⟩ = false := frozen_blk HX1.out
    have f2 : w1.frozen? ⟨w.heap.size, 2, none⟩ = false := frozen_blk HX1.out
    have f3 : w1.frozen? ⟨w.heap.size, 3, none⟩ = false := frozen_blk HX1.out
    have f4 : w1.frozen? ⟨w.heap.size, 4, none⟩ = false := frozen_blk HX1.out
    go_wp2_with fail
    refine bodyPost_ret (results_ct rfl _ _ w.heap.size 44 #[.int .i64 0, .int .i64 0, .int .i64 0, .int .i64 0, .slice none 0 0] (0, 0) _ rfl (five_set HX1.out _ _ _ _ _) Try.underlying44 rfl (by kernel_rfl)) rfl ?_
    exact ⟨none, 0, by rw [HR5.out]; rfl, by rw [HR5.out]; exact Nat.le_refl _, fun x hx => by rw [HR5.out]; exact nilC x, five_below HB1.out (Nat.le_refl _) _ _ _ _ _⟩
set_option maxHeartbeats 16000000 in
set_option maxRecDepth 100000 in
theorem xget_yes {w : World} (A : Option Addr) (c : Nat) (l : List Int) (hC : Kd.C (Kd.int .u8) w A l.length l) (hb : ∀ y ∈ l, 0 ≤ y ∧ y ≤ 255) (hc : l.length ≤ c) (h64 : l.length = 64) (h0 : (openP l).2 = 0) :
    Calls Try.prog 27 #[.slice A l.length c] w fun z w' => ∃ A' c', z = .returned (.tuple #[.agg #[.int .i64 (getS l).1.k, .int .i64 (getS l).1.e, .int .i64 (getS l).1.n, .int .i64 (getS l).1.l, .slice A' (getS l).1.d.length c'], .int .i64 (getS l).2]) ∧ (getS l).1.d.length ≤ c' ∧ (∀ x, Below w'.heap.size w' x → Kd.C (Kd.int .u8) x A' (getS l).1.d.length (getS l).1.d) ∧ Below w.heap.size w w' := by
  have HC := Aside0.mk hC
  have HBY := Aside0.mk hb
  have HL := Aside0.mk h64
  have H0 := Aside0.mk h0
  have HSE := Aside0.mk (open_ok l h0)
  obtain ⟨own, hown⟩ : ∃ own, own = (openP l).1 := ⟨_, rfl⟩
  have hlo : own.length = 60 := by rw [hown]; exact own_len h64 h0
  have hob : ∀ y ∈ own, 0 ≤ y ∧ y ≤ 255 := by rw [hown]; exact own_byte hb h0
  have HLO := Aside0.mk hlo
  have HOB := Aside0.mk hob
  obtain ⟨r, hr⟩ : ∃ r, r = getS l := ⟨_, rfl⟩
  rw [← hr]
  have HQ := Aside0.mk (show r = if okS own = true then (rawS own, 0) else (zeroS, 5) by rw [hr, hown]; unfold getS; rw [if_neg (by omega), if_neg (by omega)])
  have HOWN := Aside0.mk hown
  have HIFF := Aside0.mk (okS_iff own hlo hob)
  have hbt := fun (i : Nat) => rd_byte hob i
  obtain ⟨k, hk⟩ : ∃ z, z = rd own ((0 : Nat) : Int) := ⟨_, rfl⟩
  obtain ⟨lf, hlf⟩ : ∃ z, z = (unfixP ((own.drop 2).take 2)).1 := ⟨_, rfl⟩
  obtain ⟨e, he⟩ : ∃ z, z = (unfixP ((own.drop 4).take 4)).1 := ⟨_, rfl⟩
  obtain ⟨n, hn⟩ : ∃ z, z = (unfixP ((own.drop 8).take 4)).1 := ⟨_, rfl⟩
  obtain ⟨q4, hq4⟩ : ∃ z, z = (unfixP ((own.drop 4).take 4)).2 := ⟨_, rfl⟩
  obtain ⟨q8, hq8⟩ : ∃ z, z = (unfixP ((own.drop 8).take 4)).2 := ⟨_, rfl⟩
  have hsz : sizeS own = rd own ((1 : Nat) : Int) := num1 own hob 1 (by omega)
  obtain ⟨sn, hs⟩ : ∃ sn : Nat, (sn : Int) = rd own ((1 : Nat) : Int) := ⟨(rd own ((1 : Nat) : Int)).toNat, by have := (hbt 1).1; omega⟩
  have hs6 : sn ≤ 255 := by have := (hbt 1).2; omega
  have h22 := unfix2 ((own.drop 2).take 2) (by rw [List.length_take, List.length_drop, hlo]; omega) (take_byte hob 2 2)
  have HK := Aside0.mk hk
  have HSN := Aside0.mk hs
  have HLF := Aside0.mk hlf
  have HE := Aside0.mk he
  have HN := Aside0.mk hn
  have HQ4 := Aside0.mk hq4
  have HQ8 := Aside0.mk hq8
  have HSZ := Aside0.mk (show sizeS own = (sn : Int) from hsz.trans hs.symm)
  have HRAW := Aside0.mk (show q4 = 0 → q8 = 0 → rawS own = ⟨k, e, n, lf, (own.drop 12).take sn⟩ from fun a4 a8 => by
    unfold rawS
    rw [show sizeS own = (sn : Int) from hsz.trans hs.symm, Int.toNat_natCast, num1 own hob 0 (by omega), ← hk]
    have b4 : numP ((own.drop 4).take 4) = e := by unfold numP; rw [← hq4, a4, if_neg (by simp), he]
    have b8 : numP ((own.drop 8).take 4) = n := by unfold numP; rw [← hq8, a8, if_neg (by simp), hn]
    have b2 : numP ((own.drop 2).take 2) = lf := by unfold numP; rw [hlf, h22.1]; rfl
    rw [b4, b8, b2])
  clear hC hb h0 hown hlo hob hr hk hlf he hn hq4 hq8 hsz hs hbt h22
  rw [h64] at hc ⊢
  clear h64
  go_enter Try.func27, Try.ntmps27
  go_wp2_with fail
  obtain ⟨W, hW⟩ : ∃ W, W = w.alloc (.cells #[.int .i64 0, .int .i64 0, .int .i64 0, .int .i64 0, .slice none 0 0] 44) := ⟨_, rfl⟩
  have HB0 := Aside0.mk (show Below w.heap.size w W by rw [hW]; exact (Below.refl _ _).alloc (Nat.le_refl _) _)
  have HBX := Aside0.mk (show W.heap[w.heap.size]? = some (.cells #[.int .i64 0, .int .i64 0, .int .i64 0, .int .i64 0, .slice none 0 0] 44 (0, 0)) by rw [hW]; exact heap_alloc_new w _)
  rw [← hW]
  clear hW
  have hop := xopen_any A c l W (Kd.C_below HC.out HB0.out) HBY.out (by rw [HL.out]; omega) (by rw [HL.out]; omega)
  rw [HL.out, H0.out, ← HOWN.out, HLO.out] at hop
  refine hop.mono ?_
  clear hop
  rintro z w1 ⟨A1, c1, rfl, hc1, hrow, b1⟩
  obtain ⟨a, rfl⟩ : ∃ a, A1 = some a := by obtain ⟨a, ha, _⟩ := (hrow _ (Below.refl _ _)).2.2 (by omega); exact ⟨a, ha⟩
  have HG := Aside0.mk (show GY w w1 (some a) c1 own from ⟨HB0.out.trans (b1.mono HB0.out.size), (b1.block _ (blk_lt HBX.out)).trans HBX.out, fun x hx => by rw [HLO.out]; exact hrow x (below_steps b1 hx)⟩)
  clear hrow b1
  go_wp2_with fail
  have hu := xunfix_any (some (a.add 2)) (c1 - 2) ((own.drop 2).take 2) 2 (by rw [List.length_take, List.length_drop, HLO.out]; omega) (mid_C (HG.out.row _ (Below.refl _ _)) 2 2 (by rw [HLO.out]; omega)) (by omega) (take_byte HOB.out 2 2)
  rw [← HLF.out] at hu
  obtain ⟨q2, hq2⟩ : ∃ z, z = (unfixP ((own.drop 2).take 2)).2 := ⟨_, rfl⟩
  rw [← hq2] at hu
  clear hq2
  refine hu.mono ?_
  clear hu
  rintro z w2 ⟨rfl, b⟩
  have hg := HG.out.step b
  clear HG b
  have HG := Aside0.mk hg
  clear hg
  go_wp2_with fail
  have hu := xunfix_any (some (a.add 4)) (c1 - 4) ((own.drop 4).take 4) 4 (by rw [List.length_take, List.length_drop, HLO.out]; omega) (mid_C (HG.out.row _ (Below.refl _ _)) 4 4 (by rw [HLO.out]; omega)) (by omega) (take_byte HOB.out 4 4)
  rw [← HE.out] at hu
  rw [← HQ4.out] at hu
  refine hu.mono ?_
  clear hu
  rintro z w2 ⟨rfl, b⟩
  have hg := HG.out.step b
  clear HG b
  have HG := Aside0.mk hg
  clear hg
  go_wp2_with fail
  have hu := xunfix_any (some (a.add 8)) (c1 - 8) ((own.drop 8).take 4) 4 (by rw [List.length_take, List.length_drop, HLO.out]; omega) (mid_C (HG.out.row _ (Below.refl _ _)) 8 4 (by rw [HLO.out]; omega)) (by omega) (take_byte HOB.out 8 4)
  rw [← HN.out] at hu
  rw [← HQ8.out] at hu
  refine hu.mono ?_
  clear hu
  rintro z w2 ⟨rfl, b⟩
  have hg := HG.out.step b
  clear HG b
  have HG := Aside0.mk hg
  clear hg
  have hld : ∀ (x : World) (i : Nat), Below w2.heap.size w2 x → i < 60 → x.cell? (a.add i) = some (.int .u8 (rd own (i : Int))) := fun x i hx hi => by
    obtain ⟨ad, ea, h⟩ := Kd.at_int (HG.out.row x hx) (i : Int) (by omega) (by rw [HLO.out]; omega)
    cases ea
    rw [Int.toNat_natCast] at h
    exact h
  have HLD := Aside0.mk hld
  have hb1 : w2.cell? ⟨a.block, a.off + 1, none⟩ = some (.int .u8 (sn : Int)) := by
    have := hld w2 1 (Below.refl _ _) (by omega)
    rw [← HSN.out] at this
    exact this
  clear hld
  have ERR : ¬ okS own = true → r = (zeroS, 5) := fun h => by rw [HQ.out, if_neg h]
  have HERR := Aside0.mk ERR
  clear ERR
  by_cases h4 : q4 = 0
  · subst h4
    by_cases h8 : q8 = 0
    · subst h8
      by_cases hk48 : sn ≤ 48
      · have hd1 : decide ((48 : Int) < sn) = false := decide_eq_false (by omega)
        have HK48 := Aside0.mk hk48
        obtain ⟨d, hd⟩ : ∃ d, d = (own.drop 12).take sn := ⟨_, rfl⟩
        have hdl : d.length = sn := by rw [hd, List.length_take, List.length_drop, HLO.out]; omega
        have HD := Aside0.mk hd
        have HDL := Aside0.mk hdl
        clear hd hdl
        go_wp2_with fail
        have hm0 : ∀ m : Go.Reg.In (Below w2.heap.size w2), m.w.cell? a = some (.int .u8 k) := fun m => by
          have := HLD.out m.w 0 m.h (by omega)
          rw [← HK.out] at this
          exact this
        refine Go.Reg.region (Below w2.heap.size w2) [.s, .s, .s, .s, .s, .s, .s, .s, .s, .s, .s, .s, .w, .x] (by kernel_rfl) (by kernel_rfl) (below_drew1 (Below.refl _ _)) (fun ne => ?_)
        refine Go.Reg.lex_q 12 _ _ _ _ (by rfl) ?_; simp only [List.take_succ_cons, List.take_zero, List.drop_succ_cons, List.drop_zero]; (repeat (go_big_quiet_step (rfl))); refine wpQuiet_nil ?_
        clear hm0
        obtain ⟨a2, ha2⟩ : ∃ a2, a2 = (⟨a.block, a.off + 12, none⟩ : Addr) := ⟨_, rfl⟩
        have hmc : ∀ x, Below w2.heap.size w2 x → Kd.C (Kd.int .u8) x (some a2) d.length d := fun x hx => by
          have := mid_C (HG.out.row x hx) 12 sn (by rw [HLO.out]; omega)
          rw [← HD.out] at this
          rw [HDL.out, ha2]
          exact this
        rw [← ha2]
        clear ha2
        have HMC := Aside0.mk hmc
        clear hmc
        refine Go.Reg.step_w (fun KK hKK => ?_)
        go_wp2_with fail
        obtain ⟨w3, hw3⟩ : ∃ w3, w3 = (w2.alloc (.cells #[.int .i64 0, .int .i64 0, .int .i64 0, .int .i64 0, .slice none 0 0] 44)).drew := ⟨_, rfl⟩
        have hal : Below w2.heap.size w2 w3 := by rw [hw3]; exact below_drew1 ((Below.refl w2.heap.size w2).alloc (Nat.le_refl _) (.cells #[.int .i64 0, .int .i64 0, .int .i64 0, .int .i64 0, .slice none 0 0] 44))
        have hnb : w3.heap[w2.heap.size]? = some (.cells #[.int .i64 0, .int .i64 0, .int .i64 0, .int .i64 0, .slice none 0 0] 44 (0, 0)) := by rw [hw3]; exact heap_alloc_new w2 (.cells #[.int .i64 0, .int .i64 0, .int .i64 0, .int .i64 0, .slice none 0 0] 44)
        rw [← hw3]
        have HB3 := Aside0.mk hal
        obtain ⟨xb, hxb⟩ : ∃ xb, xb = w2.heap.size := ⟨_, rfl⟩
        have HXB := Aside0.mk (show w2.heap.size ≤ xb by omega)
        rw [← hxb] at hnb
        rw [← hxb]
        have HNB := Aside0.mk hnb
        clear hw3 hal hnb hxb
        refine hKK.out _ _ HB3.out ?_
        clear hKK KK
        have e0 : w3.cell? ⟨xb, 0, none⟩ = some (.int .i64 0) := cell_blk HNB.out
        have e1 : w3.cell? ⟨xb, 1, none⟩ = some (.int .i64 0) := cell_blk HNB.out
        have e2 : w3.cell? ⟨xb, 2, none⟩ = some (.int .i64 0) := cell_blk HNB.out
        have e3 : w3.cell? ⟨xb, 3, none⟩ = some (.int .i64 0) := cell_blk HNB.out
        have e4 : w3.cell? ⟨xb, 4, none⟩ = some (.slice none 0 0) := cell_blk HNB.out
        have g0 : w3.frozen? ⟨xb, 0, none⟩ = false := frozen_blk HNB.out
        have g1 : w3.frozen? ⟨xb, 1, none⟩ = false := frozen_blk HNB.out
        have g2 : w3.frozen? ⟨xb, 2, none⟩ = false := frozen_blk HNB.out
        have g3 : w3.frozen? ⟨xb, 3, none⟩ = false := frozen_blk HNB.out
        have g4 : w3.frozen? ⟨xb, 4, none⟩ = false := frozen_blk HNB.out
        refine Go.Reg.step_x (by rfl) (fun KK hKK => ?_)
        go_wp2_with fail
        refine hKK.out _ _ ?_
        clear hKK KK
        try simp only [Act.put, List.setIfInBounds_toArray, List.set_cons_succ, List.set_cons_zero]
        refine Go.Reg.lex_nil ?_
        clear e0 e1 e2 e3 e4 g0 g1 g2 g3 g4
        have hkw : wrap64 k = k := by
          have := rd_byte HOB.out 0
          rw [HK.out]
          exact wrap_id _ (by omega) (by omega)
        rw [hkw]
        clear hkw
        obtain ⟨w7, hw7⟩ : ∃ w7, w7 = (((((w3.setCell ⟨xb, 0, none⟩ (.int .i64 k)).setCell ⟨xb, 1, none⟩ (.int .i64 e)).setCell ⟨xb, 2, none⟩ (.int .i64 n)).setCell ⟨xb, 3, none⟩ (.int .i64 lf)).setCell ⟨xb, 4, none⟩ (.slice (some a2) sn (c1 - 12))) := ⟨_, rfl⟩
        have hx7 : w7.heap[xb]? = some (.cells #[.int .i64 k, .int .i64 e, .int .i64 n, .int .i64 lf, .slice (some a2) sn (c1 - 12)] 44 (0, 0)) := by rw [hw7]; exact five_set HNB.out _ _ _ _ _
        have hb7 : Below w2.heap.size w2 w7 := by rw [hw7]; exact five_below HB3.out HXB.out _ _ _ _ _
        rw [← hw7]
        have HMC7 := Aside0.mk (show ∀ x, Below w7.heap.size w7 x → Kd.C (Kd.int .u8) x (some a2) d.length d from fun x hx => HMC.out x (below_steps hb7 hx))
        have HDB := Aside0.mk (show ∀ y ∈ d, 0 ≤ y ∧ y ≤ 255 by rw [HD.out]; exact take_byte HOB.out 12 sn)
        have hg := HG.out.step hb7
        clear HG hb7 hw7 HMC HNB HB3 HLD
        have HG := Aside0.mk hg
        clear hg
        have x0 : w7.cell? ⟨xb, 0, none⟩ = some (.int .i64 k) := cell_blk hx7
        have x1 : w7.cell? ⟨xb, 1, none⟩ = some (.int .i64 e) := cell_blk hx7
        have x2 : w7.cell? ⟨xb, 2, none⟩ = some (.int .i64 n) := cell_blk hx7
        have x3 : w7.cell? ⟨xb, 3, none⟩ = some (.int .i64 lf) := cell_blk hx7
        have x4 : w7.cell? ⟨xb, 4, none⟩ = some (.slice (some a2) sn (c1 - 12)) := cell_blk hx7
        have HX7 := Aside0.mk hx7
        clear hx7
        go_wp2_with fail
        clear x0 x1 x2 x3 x4
        have hp := xput_any k e n lf (some a2) (c1 - 12) d (HMC7.out _ (Below.refl _ _)) (by rw [HDL.out]; omega) HDB.out
        rw [HDL.out] at hp
        obtain ⟨P, hP⟩ : ∃ P, P = putS k e n lf d := ⟨_, rfl⟩
        rw [← hP] at hp
        have HPP := Aside0.mk hP
        have hiff := HIFF.out
        have hraw := HRAW.out (by simp) (by simp)
        rw [hraw, ← HD.out, ← HQ4.out, ← HQ8.out, HSZ.out] at hiff
        have HI2 := Aside0.mk (show okS own = true ↔ P.2 = 0 ∧ P.1 = l by
          rw [hiff, HSE.out, ← HOWN.out, hP]
          constructor
          · rintro ⟨_, _, _, h1, h2⟩; exact ⟨h1, h2⟩
          · rintro ⟨h1, h2⟩; exact ⟨rfl, rfl, by have := HK48.out; omega, h1, h2⟩)
        clear hiff hP hraw
        refine hp.mono ?_
        clear hp
        rintro z w8 ⟨v8, rfl, hr8, b8⟩
        obtain ⟨A8, c8, rfl⟩ := Kd.R_slice hr8
        have hg := HG.out.step b8
        have HX8 := Aside0.mk ((b8.block _ (blk_lt HX7.out)).trans HX7.out)
        have HMC8 := Aside0.mk (show ∀ x, Below w8.heap.size w8 x → Kd.C (Kd.int .u8) x (some a2) d.length d from fun x hx => HMC7.out x (below_steps b8 hx))
        clear HG b8 HX7 HMC7
        have HG := Aside0.mk hg
        clear hg
        obtain ⟨T, hT⟩ : ∃ T, T = strOfNums P.1 := ⟨_, rfl⟩
        obtain ⟨U, hU⟩ : ∃ U, U = strOfNums l := ⟨_, rfl⟩
        have hcv1 : (convert 22 9 (.slice A8 P.1.length c8)).run Try.prog w8 = .ok (.string T) w8 := by rw [hT]; exact strC (row_at hr8)
        have hcv2 : (convert 22 9 (.slice A 64 c)).run Try.prog w8 = .ok (.string U) w8 := by
          rw [hU]
          have := Kd.C_below HC.out (below_up HG.out.below)
          rw [HL.out] at this
          exact strC this
        obtain ⟨e2, he2⟩ : ∃ e2, e2 = P.2 := ⟨_, rfl⟩
        obtain ⟨pl, hpl⟩ : ∃ pl, pl = P.1.length := ⟨_, rfl⟩
        have HTU := Aside0.mk (show T.toList = U.toList → P.1 = l from fun h => str_inj (put_byte HDB.out HPP.out) HBY.out (by rw [← hT, ← hU]; exact h))
        have HTU2 := Aside0.mk (show P.1 = l → T = U from fun h => by rw [hT, hU, h])
        have HI3 := Aside0.mk (show okS own = true ↔ e2 = 0 ∧ P.1 = l by rw [he2]; exact HI2.out)
        rw [← he2, ← hpl]
        rw [← hpl] at hcv1
        clear hT hU he2 hpl hr8
        by_cases he : e2 = 0
        · subst he
          by_cases hpq : P.1 = l
          · have hr5 := Aside0.mk (show r = (⟨k, e, n, lf, d⟩, 0) by rw [HQ.out, if_pos (HI3.out.2 ⟨rfl, hpq⟩), HRAW.out (by simp) (by simp), HD.out])
            obtain rfl := HTU2.out hpq
            clear hpq
            have z0 : w8.cell? ⟨w.heap.size, 0, none⟩ = some (.int .i64 0) := cell_blk HG.out.zero
            have z1 : w8.cell? ⟨w.heap.size, 1, none⟩ = some (.int .i64 0) := cell_blk HG.out.zero
            have z2 : w8.cell? ⟨w.heap.size, 2, none⟩ = some (.int .i64 0) := cell_blk HG.out.zero
            have z3 : w8.cell? ⟨w.heap.size, 3, none⟩ = some (.int .i64 0) := cell_blk HG.out.zero
            have z4 : w8.cell? ⟨w.heap.size, 4, none⟩ = some (.slice none 0 0) := cell_blk HG.out.zero
            have f0 : w8.frozen? ⟨w.heap.size, 0, none⟩ = false := frozen_blk HG.out.zero
            have f1 : w8.frozen? ⟨w.heap.size, 1, none⟩ = false := frozen_blk HG.out.zero
            have f2 : w8.frozen? ⟨w.heap.size, 2, none⟩ = false := frozen_blk HG.out.zero
            have f3 : w8.frozen? ⟨w.heap.size, 3, none⟩ = false := frozen_blk HG.out.zero
            have f4 : w8.frozen? ⟨w.heap.size, 4, none⟩ = false := frozen_blk HG.out.zero
            have x0 : w8.cell? ⟨xb, 0, none⟩ = some (.int .i64 k) := cell_blk HX8.out
            have x1 : w8.cell? ⟨xb, 1, none⟩ = some (.int .i64 e) := cell_blk HX8.out
            have x2 : w8.cell? ⟨xb, 2, none⟩ = some (.int .i64 n) := cell_blk HX8.out
            have x3 : w8.cell? ⟨xb, 3, none⟩ = some (.int .i64 lf) := cell_blk HX8.out
            have x4 : w8.cell? ⟨xb, 4, none⟩ = some (.slice (some a2) sn (c1 - 12)) := cell_blk HX8.out
            go_wp2_with fail
            refine bodyPost_ret (results_ct rfl _ _ w.heap.size 44 #[.int .i64 k, .int .i64 e, .int .i64 n, .int .i64 lf, .slice (some a2) sn (c1 - 12)] (0, 0) _ rfl (five_set HG.out.zero _ _ _ _ _) Try.underlying44 rfl (by kernel_rfl)) rfl ?_
            refine ⟨some a2, c1 - 12, by rw [hr5.out, ← HDL.out]; rfl, by rw [hr5.out]; show d.length ≤ c1 - 12; rw [HDL.out]; omega, fun y hy => ?_, five_below HG.out.below (Nat.le_refl _) _ _ _ _ _⟩
            rw [hr5.out]
            exact Kd.C_below (C_but (HMC8.out _ (Below.refl _ _)) HG.out.zero not8_5 (five_but _ _ _ _ _)) hy
          · have hne : (!T.toList == U.toList) = true := by simpa using (fun h => hpq (HTU.out h))
            have HR5 := Aside0.mk (HERR.out (fun h => hpq (HI3.out.1 h).2))
            clear hpq
            have z0 : w8.cell? ⟨w.heap.size, 0, none⟩ = some (.int .i64 0) := cell_blk HG.out.zero
            have z1 : w8.cell? ⟨w.heap.size, 1, none⟩ = some (.int .i64 0) := cell_blk HG.out.zero
            have z2 : w8.cell? ⟨w.heap.size, 2, none⟩ = some (.int .i64 0) := cell_blk HG.out.zero
            have z3 : w8.cell? ⟨w.heap.size, 3, none⟩ = some (.int .i64 0) := cell_blk HG.out.zero
            have z4 : w8.cell? ⟨w.heap.size, 4, none⟩ = some (.slice none 0 0) := cell_blk HG.out.zero
            have f0 : w8.frozen? ⟨w.heap.size, 0, none⟩ = false := frozen_blk HG.out.zero
            have f1 : w8.frozen? ⟨w.heap.size, 1, none⟩ = false := frozen_blk HG.out.zero
            have f2 : w8.frozen? ⟨w.heap.size, 2, none⟩ = false := frozen_blk HG.out.zero
            have f3 : w8.frozen? ⟨w.heap.size, 3, none⟩ = false := frozen_blk HG.out.zero
            have f4 : w8.frozen? ⟨w.heap.size, 4, none⟩ = false := frozen_blk HG.out.zero
            go_wp2_with fail
            refine bodyPost_ret (results_ct rfl _ _ w.heap.size 44 #[.int .i64 0, .int .i64 0, .int .i64 0, .int .i64 0, .slice none 0 0] (0, 0) _ rfl (five_set HG.out.zero _ _ _ _ _) Try.underlying44 rfl (by kernel_rfl)) rfl ?_
            exact ⟨none, 0, by rw [HR5.out]; rfl, by rw [HR5.out]; exact Nat.le_refl _, fun x hx => by rw [HR5.out]; exact nilC x, five_below HG.out.below (Nat.le_refl _) _ _ _ _ _⟩
        · have he' : (e2 != 0) = true := by simpa using he
          have HR5 := Aside0.mk (HERR.out (fun h => he (HI3.out.1 h).1))
          have z0 : w8.cell? ⟨w.heap.size, 0, none⟩ = some (.int .i64 0) := cell_blk HG.out.zero
          have z1 : w8.cell? ⟨w.heap.size, 1, none⟩ = some (.int .i64 0) := cell_blk HG.out.zero
          have z2 : w8.cell? ⟨w.heap.size, 2, none⟩ = some (.int .i64 0) := cell_blk HG.out.zero
          have z3 : w8.cell? ⟨w.heap.size, 3, none⟩ = some (.int .i64 0) := cell_blk HG.out.zero
          have z4 : w8.cell? ⟨w.heap.size, 4, none⟩ = some (.slice none 0 0) := cell_blk HG.out.zero
          have f0 : w8.frozen? ⟨w.heap.size, 0, none⟩ = false := frozen_blk HG.out.zero
          have f1 : w8.frozen? ⟨w.heap.size, 1, none⟩ = false := frozen_blk HG.out.zero
          have f2 : w8.frozen? ⟨w.heap.size, 2, none⟩ = false := frozen_blk HG.out.zero
          have f3 : w8.frozen? ⟨w.heap.size, 3, none⟩ = false := frozen_blk HG.out.zero
          have f4 : w8.frozen? ⟨w.heap.size, 4, none⟩ = false := frozen_blk HG.out.zero
          go_wp2_with fail
          refine bodyPost_ret (results_ct rfl _ _ w.heap.size 44 #[.int .i64 0, .int .i64 0, .int .i64 0, .int .i64 0, .slice none 0 0] (0, 0) _ rfl (five_set HG.out.zero _ _ _ _ _) Try.underlying44 rfl (by kernel_rfl)) rfl ?_
          exact ⟨none, 0, by rw [HR5.out]; rfl, by rw [HR5.out]; exact Nat.le_refl _, fun x hx => by rw [HR5.out]; exact nilC x, five_below HG.out.below (Nat.le_refl _) _ _ _ _ _⟩
      · have hd1 : decide ((48 : Int) < sn) = true := decide_eq_true (by omega)
        have HR5 := Aside0.mk (HERR.out (fun h => hk48 (by have := (HIFF.out.1 h).2.2.1; rw [HSZ.out] at this; omega)))
        have z0 : w2.cell? ⟨w.heap.size, 0, none⟩ = some (.int .i64 0) := cell_blk HG.out.zero
        have z1 : w2.cell? ⟨w.heap.size, 1, none⟩ = some (.int .i64 0) := cell_blk HG.out.zero
        have z2 : w2.cell? ⟨w.heap.size, 2, none⟩ = some (.int .i64 0) := cell_blk HG.out.zero
        have z3 : w2.cell? ⟨w.heap.size, 3, none⟩ = some (.int .i64 0) := cell_blk HG.out.zero
        have z4 : w2.cell? ⟨w.heap.size, 4, none⟩ = some (.slice none 0 0) := cell_blk HG.out.zero
        have f0 : w2.frozen? ⟨w.heap.size, 0, none⟩ = false := frozen_blk HG.out.zero
        have f1 : w2.frozen? ⟨w.heap.size, 1, none⟩ = false := frozen_blk HG.out.zero
        have f2 : w2.frozen? ⟨w.heap.size, 2, none⟩ = false := frozen_blk HG.out.zero
        have f3 : w2.frozen? ⟨w.heap.size, 3, none⟩ = false := frozen_blk HG.out.zero
        have f4 : w2.frozen? ⟨w.heap.size, 4, none⟩ = false := frozen_blk HG.out.zero
        go_wp2_with fail
        refine bodyPost_ret (results_ct rfl _ _ w.heap.size 44 #[.int .i64 0, .int .i64 0, .int .i64 0, .int .i64 0, .slice none 0 0] (0, 0) _ rfl (five_set HG.out.zero _ _ _ _ _) Try.underlying44 rfl (by kernel_rfl)) rfl ?_
        exact ⟨none, 0, by rw [HR5.out]; rfl, by rw [HR5.out]; exact Nat.le_refl _, fun x hx => by rw [HR5.out]; exact nilC x, five_below HG.out.below (Nat.le_refl _) _ _ _ _ _⟩
    · have h8b : (q8 != 0) = true := by simpa using h8
      have HR5 := Aside0.mk (HERR.out (fun h => h8 (by rw [HQ8.out]; exact (HIFF.out.1 h).2.1)))
      have z0 : w2.cell? ⟨w.heap.size, 0, none⟩ = some (.int .i64 0) := cell_blk HG.out.zero
      have z1 : w2.cell? ⟨w.heap.size, 1, none⟩ = some (.int .i64 0) := cell_blk HG.out.zero
      have z2 : w2.cell? ⟨w.heap.size, 2, none⟩ = some (.int .i64 0) := cell_blk HG.out.zero
      have z3 : w2.cell? ⟨w.heap.size, 3, none⟩ = some (.int .i64 0) := cell_blk HG.out.zero
      have z4 : w2.cell? ⟨w.heap.size, 4, none⟩ = some (.slice none 0 0) := cell_blk HG.out.zero
      have f0 : w2.frozen? ⟨w.heap.size, 0, none⟩ = false := frozen_blk HG.out.zero
      have f1 : w2.frozen? ⟨w.heap.size, 1, none⟩ = false := frozen_blk HG.out.zero
      have f2 : w2.frozen? ⟨w.heap.size, 2, none⟩ = false := frozen_blk HG.out.zero
      have f3 : w2.frozen? ⟨w.heap.size, 3, none⟩ = false := frozen_blk HG.out.zero
      have f4 : w2.frozen? ⟨w.heap.size, 4, none⟩ = false := frozen_blk HG.out.zero
      go_wp2_with fail
      refine bodyPost_ret (results_ct rfl _ _ w.heap.size 44 #[.int .i64 0, .int .i64 0, .int .i64 0, .int .i64 0, .slice none 0 0] (0, 0) _ rfl (five_set HG.out.zero _ _ _ _ _) Try.underlying44 rfl (by kernel_rfl)) rfl ?_
      exact ⟨none, 0, by rw [HR5.out]; rfl, by rw [HR5.out]; exact Nat.le_refl _, fun x hx => by rw [HR5.out]; exact nilC x, five_below HG.out.below (Nat.le_refl _) _ _ _ _ _⟩
  · have h4b : (q4 != 0) = true := by simpa using h4
    have HR5 := Aside0.mk (HERR.out (fun h => h4 (by rw [HQ4.out]; exact (HIFF.out.1 h).1)))
    have z0 : w2.cell? ⟨w.heap.size, 0, none⟩ = some (.int .i64 0) := cell_blk HG.out.zero
    have z1 : w2.cell? ⟨w.heap.size, 1, none⟩ = some (.int .i64 0) := cell_blk HG.out.zero
    have z2 : w2.cell? ⟨w.heap.size, 2, none⟩ = some (.int .i64 0) := cell_blk HG.out.zero
    have z3 : w2.cell? ⟨w.heap.size, 3, none⟩ = some (.int .i64 0) := cell_blk HG.out.zero
    have z4 : w2.cell? ⟨w.heap.size, 4, none⟩ = some (.slice none 0 0) := cell_blk HG.out.zero
    have f0 : w2.frozen? ⟨w.heap.size, 0, none⟩ = false := frozen_blk HG.out.zero
    have f1 : w2.frozen? ⟨w.heap.size, 1, none⟩ = false := frozen_blk HG.out.zero
    have f2 : w2.frozen? ⟨w.heap.size, 2, none⟩ = false := frozen_blk HG.out.zero
    have f3 : w2.frozen? ⟨w.heap.size, 3, none⟩ = false := frozen_blk HG.out.zero
    have f4 : w2.frozen? ⟨w.heap.size, 4, none⟩ = false := frozen_blk HG.out.zero
    go_wp2_with fail
    refine bodyPost_ret (results_ct rfl _ _ w.heap.size 44 #[.int .i64 0, .int .i64 0, .int .i64 0, .int .i64 0, .slice none 0 0] (0, 0) _ rfl (five_set HG.out.zero _ _ _ _ _) Try.underlying44 rfl (by kernel_rfl)) rfl ?_
    exact ⟨none, 0, by rw [HR5.out]; rfl, by rw [HR5.out]; exact Nat.le_refl _, fun x hx => by rw [HR5.out]; exact nilC x, five_below HG.out.below (Nat.le_refl _) _ _ _ _ _⟩
theorem xget_any {w : World} (A : Option Addr) (c : Nat) (l : List Int) (hC : Kd.C (Kd.int .u8) w A l.length l) (hb : ∀ y ∈ l, 0 ≤ y ∧ y ≤ 255) (hc : l.length ≤ c) (hl : l.length ≤ 200000) :
    Calls Try.prog 27 #[.slice A l.length c] w fun e w' => ∃ A' c', e = .returned (.tuple #[.agg #[.int .i64 (getS l).1.k, .int .i64 (getS l).1.e, .int .i64 (getS l).1.n, .int .i64 (getS l).1.l, .slice A' (getS l).1.d.length c'], .int .i64 (getS l).2]) ∧ (getS l).1.d.length ≤ c' ∧ (∀ x, Below w'.heap.size w' x → Kd.C (Kd.int .u8) x A' (getS l).1.d.length (getS l).1.d) ∧ Below w.heap.size w w' := by
  by_cases h : l.length ≠ 64 ∨ (openP l).2 ≠ 0
  · exact xget_no A c l hC hb hc hl h
  · have h1 : l.length = 64 := Classical.byContradiction (fun e => h (Or.inl e))
    have h2 : (openP l).2 = 0 := Classical.byContradiction (fun e => h (Or.inr e))
    exact xget_yes A c l hC hb hc h1 h2
set_option maxHeartbeats 16000000 in
set_option maxRecDepth 100000 in
theorem gets_walk {w : World} (A : Option Addr) (c : Nat) (l : List Int) (hC : Kd.C (Kd.int .u8) w A l.length l) (hc : l.length ≤ c) (hb : ∀ y ∈ l, 0 ≤ y ∧ y ≤ 255) :
    Calls Try.prog 7 #[.slice A l.length c] w fun e w' => e = .returned (.bool true) ∧ Below w.heap.size w w' := by
  have HC := Aside0.mk hC
  have HBY := Aside0.mk hb
  clear hC hb
  obtain ⟨ln, hln⟩ : ∃ ln, ln = l.length := ⟨_, rfl⟩
  rw [← hln] at hc
  by_cases h200 : ln > 200
  · rw [← hln]
    clear hln
    go_enter Try.func7, Try.ntmps7
    go_wp2_with fail
    refine awake_any.mono ?_
    rintro e w1 ⟨rfl, b⟩
    have HB := Aside0.mk b
    clear b
    go_wp2_with fail
    go_ret
    exact ⟨rfl, HB.out⟩
  · rw [← hln]
    have HLN := Aside0.mk hln
    clear hln
    go_enter Try.func7, Try.ntmps7
    go_wp2_with fail
    have hr' : l.length ≤ 200000 := by have := HLN.out; omega
    obtain ⟨gk, hgk⟩ : ∃ z, z = (getS l).1.k := ⟨_, rfl⟩
    obtain ⟨ge, hge⟩ : ∃ z, z = (getS l).1.e := ⟨_, rfl⟩
    obtain ⟨gn, hgn⟩ : ∃ z, z = (getS l).1.n := ⟨_, rfl⟩
    obtain ⟨gl, hgl⟩ : ∃ z, z = (getS l).1.l := ⟨_, rfl⟩
    obtain ⟨gd, hgd⟩ : ∃ z, z = (getS l).1.d := ⟨_, rfl⟩
    obtain ⟨r, hr⟩ : ∃ z, z = (getS l).2 := ⟨_, rfl⟩
    have hgb : ∀ y ∈ gd, 0 ≤ y ∧ y ≤ 255 := by rw [hgd]; exact get_byte l HBY.out
    have HGB := Aside0.mk hgb
    have HPG := Aside0.mk (show r = 0 → putS gk ge gn gl gd = (l, 0) from fun h => by rw [hgk, hge, hgn, hgl, hgd]; exact put_get l HBY.out (by rw [← hr]; exact h))
    have h1 := get_any A c l HC.out HBY.out (by rw [← HLN.out]; exact hc) hr'
    have h2 := fun {x : World} (hx : Below w.heap.size w x) => xget_any A c l (Kd.C_below HC.out hx) HBY.out (by rw [← HLN.out]; exact hc) hr'
    rw [← hgk, ← hge, ← hgn, ← hgl, ← hgd, ← hr, ← HLN.out] at h1
    simp only [← hgk, ← hge, ← hgn, ← hgl, ← hgd, ← hr, ← HLN.out] at h2
    have H2 := Aside0.mk @h2
    clear h2 hgk hge hgn hgl hgd hr hgb hr'
    obtain ⟨dn, hdn⟩ : ∃ dn, dn = gd.length := ⟨_, rfl⟩
    have HDN := Aside0.mk hdn
    refine h1.mono ?_
    clear h1
    rintro e w1 ⟨A1, c1, rfl, hc1, hC1, b1⟩
    rw [← hdn] at hc1 hC1
    rw [← hdn]
    clear hdn
    have HC1 := Aside0.mk hC1
    have HB1 := Aside0.mk b1
    clear b1 hC1
    go_wp2_with fail
    obtain ⟨w2, hw2⟩ : ∃ w2, w2 = (w1.alloc (.cells #[.int .i64 gk, .int .i64 ge, .int .i64 gn, .int .i64 gl, .slice A1 dn c1] 44)) := ⟨_, rfl⟩
    have hx2 : w2.heap[w1.heap.size]? = some (.cells #[.int .i64 gk, .int .i64 ge, .int .i64 gn, .int .i64 gl, .slice A1 dn c1] 44 (0, 0)) := by rw [hw2]; exact heap_alloc_new w1 _
    have b2 : Below w1.heap.size w1 w2 := by rw [hw2]; exact (Below.refl _ _).alloc (Nat.le_refl _) _
    have hs2 : w1.heap.size < w2.heap.size := by rw [hw2]; simp
    rw [← hw2]
    have HB2 := Aside0.mk (HB1.out.trans (b2.mono HB1.out.size))
    have HC2 := Aside0.mk (show ∀ x, Below w2.heap.size w2 x → Kd.C (Kd.int .u8) x A1 dn gd from fun x hx => HC1.out x (b2.trans (hx.mono b2.size)))
    have HX2 := Aside0.mk (show ∀ x, Below w2.heap.size w2 x → x.heap[w1.heap.size]? = some (.cells #[.int .i64 gk, .int .i64 ge, .int .i64 gn, .int .i64 gl, .slice A1 dn c1] 44 (0, 0)) from fun x hx => (hx.block _ hs2).trans hx2)
    clear hw2 hx2 b2 hs2 HB1 HC1
    refine (H2.out HB2.out).mono ?_
    rintro e w3 ⟨A3, c3, rfl, hc3, hC3, b3⟩
    rw [← HDN.out] at hc3 hC3
    rw [← HDN.out]
    have HC3 := Aside0.mk hC3
    have HB3 := Aside0.mk b3
    clear b3 hC3 H2
    have hax : ∀ o, (w3.alloc o).heap[w1.heap.size]? = some (.cells #[.int .i64 gk, .int .i64 ge, .int .i64 gn, .int .i64 gl, .slice A1 dn c1] 44 (0, 0)) := fun o => HX2.out _ (HB3.out.alloc HB3.out.size _)
    have ha0 : ∀ o, (w3.alloc o).cell? ⟨w1.heap.size, 0, none⟩ = some (.int .i64 gk) := fun o => (cells5 (hax o)).1
    have ha1 : ∀ o, (w3.alloc o).cell? ⟨w1.heap.size, 1, none⟩ = some (.int .i64 ge) := fun o => (cells5 (hax o)).2.1
    have ha2 : ∀ o, (w3.alloc o).cell? ⟨w1.heap.size, 2, none⟩ = some (.int .i64 gn) := fun o => (cells5 (hax o)).2.2.1
    have ha3 : ∀ o, (w3.alloc o).cell? ⟨w1.heap.size, 3, none⟩ = some (.int .i64 gl) := fun o => (cells5 (hax o)).2.2.2.1
    have ha4 : ∀ o, (w3.alloc o).cell? ⟨w1.heap.size, 4, none⟩ = some (.slice A1 dn c1) := fun o => (cells5 (hax o)).2.2.2.2
    clear hax
    go_wp2_with fail
    clear ha0 ha1 ha2 ha3 ha4
    obtain ⟨w4, hw4⟩ : ∃ w4, w4 = (w3.alloc (.cells #[.int .i64 gk, .int .i64 ge, .int .i64 gn, .int .i64 gl, .slice A3 dn c3] 44)) := ⟨_, rfl⟩
    have hx4 : w4.heap[w3.heap.size]? = some (.cells #[.int .i64 gk, .int .i64 ge, .int .i64 gn, .int .i64 gl, .slice A3 dn c3] 44 (0, 0)) := by rw [hw4]; exact heap_alloc_new w3 _
    have b4 : Below w3.heap.size w3 w4 := by rw [hw4]; exact (Below.refl _ _).alloc (Nat.le_refl _) _
    have hs4 : w3.heap.size < w4.heap.size := by rw [hw4]; simp
    rw [← hw4]
    have HB4 := Aside0.mk (HB3.out.trans (b4.mono HB3.out.size))
    have HC4 := Aside0.mk (show ∀ x, Below w4.heap.size w4 x → Kd.C (Kd.int .u8) x A3 dn gd from fun x hx => HC3.out x (b4.trans (hx.mono b4.size)))
    have HX4 := Aside0.mk (show ∀ x, Below w4.heap.size w4 x → x.heap[w3.heap.size]? = some (.cells #[.int .i64 gk, .int .i64 ge, .int .i64 gn, .int .i64 gl, .slice A3 dn c3] 44 (0, 0)) from fun x hx => (hx.block _ hs4).trans hx4)
    clear hw4 hx4 b4 hs4 HB3 HC3
    obtain ⟨P, hP⟩ : ∃ P, P = putS gk ge gn gl gd := ⟨_, rfl⟩
    have h5 := put_anyC gk ge gn gl A1 c1 gd (w := w4) (by rw [← HDN.out]; exact HC2.out _ HB4.out) (by rw [← HDN.out]; exact hc1) HGB.out
    rw [← hP, ← HDN.out] at h5
    have HPG2 := Aside0.mk (show r = 0 → P = (l, 0) from fun h => by rw [hP]; exact HPG.out h)
    obtain ⟨pl, hpl⟩ : ∃ pl, pl = P.1.length := ⟨_, rfl⟩
    obtain ⟨pr, hpr⟩ : ∃ pr, pr = P.2 := ⟨_, rfl⟩
    refine h5.mono ?_
    clear h5 HPG
    rintro e w5 ⟨A5, c5, rfl, hc5, hC5, b5⟩
    rw [← hpl, ← hpr]
    rw [← hpl] at hc5 hC5
    have HPL := Aside0.mk hpl
    have HPR := Aside0.mk hpr
    have HC5 := Aside0.mk hC5
    have HB5 := Aside0.mk b5
    clear hP hpl hpr hC5 b5
    have hb25 := HB4.out.trans (HB5.out.mono HB4.out.size)
    obtain ⟨hy0, hy1, hy2, hy3, hy4⟩ := cells5 (HX2.out w5 hb25)
    obtain ⟨hz0, hz1, hz2, hz3, hz4⟩ := cells5 (HX4.out w5 HB5.out)
    have HB25 := Aside0.mk (HB2.out.trans (hb25.mono HB2.out.size))
    have hsame := same_any gk ge gn gl A1 A3 c1 c3 gd (w := w5) (by rw [← HDN.out]; exact HC2.out _ hb25) (by rw [← HDN.out]; exact hc1) (by rw [← HDN.out]; exact HC4.out _ HB5.out) (by rw [← HDN.out]; exact hc3)
    rw [← HDN.out] at hsame
    have HS := Aside0.mk hsame
    clear hb25 hsame
    go_wp2_with fail
    clear hy0 hy1 hy2 hy3 hy4 hz0 hz1 hz2 hz3 hz4
    refine HS.out.mono ?_
    rintro e w6 ⟨rfl, b6⟩
    have HB6 := Aside0.mk (HB25.out.trans (b6.mono HB25.out.size))
    obtain ⟨T, hT⟩ : ∃ T, T = strOfNums P.1 := ⟨_, rfl⟩
    obtain ⟨U, hU⟩ : ∃ U, U = strOfNums l := ⟨_, rfl⟩
    have hcv1 : (convert 22 9 (.slice A5 pl c5)).run Try.prog w6 = .ok (.string T) w6 := by rw [hT]; exact strC (HC5.out _ b6)
    have hcv2 : (convert 22 9 (.slice A ln c)).run Try.prog w6 = .ok (.string U) w6 := by
      rw [hU]
      have := Kd.C_below HC.out HB6.out
      rw [← HLN.out] at this
      exact strC this
    have HTU := Aside0.mk (show r = 0 → T = U from fun h => by rw [hT, hU, HPG2.out h])
    clear b6 hT hU HS
    by_cases h0 : r = 0
    · subst h0
      obtain rfl := HTU.out rfl
      have h2 : pr = 0 := by rw [HPR.out, HPG2.out rfl]
      subst h2
      go_wp2_with fail
      refine awake_any.mono ?_
      rintro e w7 ⟨rfl, b7⟩
      have HB7 := Aside0.mk (HB6.out.trans (b7.mono HB6.out.size))
      clear b7
      go_wp2_with fail
      go_ret
      exact ⟨rfl, HB7.out⟩
    · have h1 : (r == 0) = false := by simpa using h0
      go_wp2_with fail
      refine awake_any.mono ?_
      rintro e w7 ⟨rfl, b7⟩
      have HB7 := Aside0.mk (HB6.out.trans (b7.mono HB6.out.size))
      clear b7
      go_wp2_with fail
      go_ret
      exact ⟨rfl, HB7.out⟩
end Sect
end Go.Proofs.Ytkfbegmfepehiaa
