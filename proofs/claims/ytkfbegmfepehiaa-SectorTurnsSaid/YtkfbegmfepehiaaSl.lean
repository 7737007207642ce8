/- Walk: the law SectorTurns. -/
import Derived.Test.YtkfbegmfepehiaaSk
import Derived.Laws.StructEq
import Derived.Laws.Tables
import Derived.Laws.Cover2
import Derived.Laws.IdiomArrays
import Derived.KernelRfl
namespace Go.Proofs.Ytkfbegmfepehiaa
set_option linter.unusedVariables false
set_option linter.unusedSimpArgs false
set_option linter.ambiguousOpen false
open Go.RowKit Go.Proofs.YtkfbegmfepehiaaW.PrintWords Go.Proofs.YtkfbegmfepehiaaW.PrintLast Go.Proofs.YtkfbegmfepehiaaW.PrintMore
namespace Sect
open Go.Num Go.Crc Go.Proofs.Ytkfbegmfepehiaa.Cell
theorem u8s_at (l : List Int) (i : Nat) (h : i < l.length) : (u8s l)[i]? = some (.int .u8 (l.getD i 0)) := by
  show (List.map (Value.int .u8) l)[i]? = _
  rw [List.getD_eq_getElem?_getD, List.getElem?_map, List.getElem?_eq_getElem h]
  rfl
theorem u8s_C {w : World} {b t n : Nat} {l : List Int} {sp : List Value} (hb : w.heap[b]? = some (.cells (u8s l ++ sp).toArray t (0, 0))) (hn : l.length = n) (h0 : n ≤ 9223372036854775807) : Kd.C (Kd.int .u8) w (some ⟨b, 0, none⟩) n l := by
  refine Kd.C_of_reads (enc := fun x => Value.int .u8 x) (d := (0:Int)) (h1 := fun _ => rfl) ⟨hn, h0, fun _ => ⟨_, rfl, fun j hj => ?_⟩⟩
  have : (⟨b, 0, none⟩ : Addr).add j = ⟨b, j, none⟩ := by unfold Addr.add; simp; try (intro h; exact h.symm)
  rw [this, cell_blk hb, List.getElem?_toArray, List.getElem?_append_left (by rw [u8s_len]; omega), u8s_at _ _ (by omega)]
theorem eq_turn (a b c d : Int) (w : World) : (Op.equalIn 10000 56 (.agg #[.int .u8 a, .int .u8 b, .int .u8 c, .int .u8 d]) (.agg #[.int .u8 0, .int .u8 0, .int .u8 0, .int .u8 0])).run Try.prog w = .ok (a == 0 && (b == 0 && (c == 0 && d == 0))) w := by
  have u3 := Try.underlying5
  have a3 := Try.isAgg5
  have z3 := Try.sizeOf5
  rw [show (10000 : Nat) = 9999 + 1 from rfl, Op.equalIn]
  simp only [Sem.run_bind, run_underlying Try.underlying56, Result.andThen_ok]
  simp only [Std.Legacy.Range.forIn_eq_forIn_range', Std.Legacy.Range.size, Nat.sub_zero, Nat.add_sub_cancel, Nat.div_one, List.range'_succ, List.range'_zero, List.forIn_cons, List.forIn_nil]
  go_simp
  by_cases h1 : a = 0 <;> by_cases h2 : b = 0 <;> by_cases h3 : c = 0 <;> by_cases h4 : d = 0 <;> simp [h1, h2, h3, h4]
/-- The sealed bytes as they are turned: in a block of their own. -/
structure TB (w0 w : World) (g : Nat) (cap : Nat) (bs : List Int) (sp : List Value) : Prop where
  below : Below w0.heap.size w0 w
  base : w0.heap.size ≤ g
  row : w.heap[g]? = some (.cells (u8s bs ++ sp).toArray 5 (0, 0))
  room : bs.length ≤ cap
set_option maxHeartbeats 16000000 in
set_option maxRecDepth 100000 in
theorem turns_walk {w : World} (k e n l : Int) (A : Option Addr) (c : Nat) (d : List Int) (hC : Kd.C (Kd.int .u8) w A d.length d) (hc : d.length ≤ c) (hb : ∀ y ∈ d, 0 ≤ y ∧ y ≤ 255) (a : Int) (t0 t1 t2 t3 : Int) (h0 : 0 ≤ t0 ∧ t0 ≤ 255) (h1 : 0 ≤ t1 ∧ t1 ≤ 255) (h2 : 0 ≤ t2 ∧ t2 ≤ 255) (h3 : 0 ≤ t3 ∧ t3 ≤ 255) :
    Calls Try.prog 9 #[.agg #[.int .i64 k, .int .i64 e, .int .i64 n, .int .i64 l, .slice A d.length c], .int .i64 a, .agg #[.int .u8 t0, .int .u8 t1, .int .u8 t2, .int .u8 t3]] w fun rr w' => rr = .returned (.bool true) ∧ Below w.heap.size w w' := by
  have HC := Aside0.mk hC
  have HBY := Aside0.mk hb
  clear hC hb
  obtain ⟨ln, hln⟩ : ∃ ln, ln = d.length := ⟨_, rfl⟩
  rw [← hln] at hc
  rw [← hln]
  have HLN := Aside0.mk hln
  clear hln
  have HT := Aside0.mk (And.intro h0 (And.intro h1 (And.intro h2 h3)))
  clear h0 h1 h2 h3
  by_cases hbig : ln > 48 ∨ a < 0 ∨ a > 60
  · have hg : ((48 : Int) < (ln : Int)) ∨ (¬ ((48 : Int) < (ln : Int)) ∧ a < 0) ∨ (¬ ((48 : Int) < (ln : Int)) ∧ ¬ a < 0 ∧ 60 < a) := by omega
    clear hbig
    rcases hg with g1 | ⟨g1, g2⟩ | ⟨g1, g2, g3⟩
    all_goals (
      go_enter Try.func9, Try.ntmps9
      go_wp2_with fail
      refine awake_any.mono ?_
      rintro rr w1 ⟨rfl, b⟩
      have HB := Aside0.mk ((((Below.refl w.heap.size w).alloc (Nat.le_refl _) _).alloc (by simp) _).trans (b.mono (by simp; omega)))
      clear b
      go_wp2_with fail
      go_ret
      exact ⟨rfl, HB.out⟩)
  · have g1 : decide ((48 : Int) < (ln : Int)) = false := decide_eq_false (by omega)
    have g2 : decide (a < 0) = false := decide_eq_false (by omega)
    have g3 : decide (60 < a) = false := decide_eq_false (by omega)
    have HA := Aside0.mk (show 0 ≤ a ∧ a ≤ 60 by omega)
    have HL48 := Aside0.mk (show ln ≤ 48 by omega)
    clear hbig
    obtain ⟨ts, hts⟩ : ∃ ts, ts = [t0, t1, t2, t3] := ⟨_, rfl⟩
    have HTS := Aside0.mk hts
    have HTL := Aside0.mk (show ts.length = 4 by rw [hts]; rfl)
    have HTB := Aside0.mk (show ∀ x ∈ ts, 0 ≤ x ∧ x ≤ 255 by rw [hts]; intro x hx; have := HT.out; simp at hx; rcases hx with rfl | rfl | rfl | rfl <;> omega)
    clear hts
    have heq := eq_turn t0 t1 t2 t3
    obtain ⟨zb, hzb⟩ : ∃ zb, zb = (t0 == 0 && (t1 == 0 && (t2 == 0 && t3 == 0))) := ⟨_, rfl⟩
    rw [← hzb] at heq
    cases zb with
    | true =>
      clear hzb
      go_enter Try.func9, Try.ntmps9
      go_wp2_with fail
      refine awake_any.mono ?_
      rintro rr w1 ⟨rfl, b⟩
      have HB := Aside0.mk ((((Below.refl w.heap.size w).alloc (Nat.le_refl _) _).alloc (by simp) _).trans (b.mono (by simp; omega)))
      clear b
      go_wp2_with fail
      go_ret
      exact ⟨rfl, HB.out⟩
    | false =>
      have HNZ := Aside0.mk (show ∃ t ∈ ts, t ≠ 0 from Classical.byContradiction (fun h => by
        have h' : ∀ t ∈ ts, t = 0 := fun t ht => Classical.byContradiction (fun e => h ⟨t, ht, e⟩)
        rw [HTS.out] at h'
        have q0 := h' t0 (by simp)
        have q1 := h' t1 (by simp)
        have q2 := h' t2 (by simp)
        have q3 := h' t3 (by simp)
        subst q0 q1 q2 q3
        cases hzb))
      clear hzb
      go_enter Try.func9, Try.ntmps9
      go_wp2_with fail
      obtain ⟨W0, hW0⟩ : ∃ W0, W0 = (w.alloc (.cells #[.int .i64 k, .int .i64 e, .int .i64 n, .int .i64 l, .slice A ln c] 44)).alloc (.cells #[.int .u8 t0, .int .u8 t1, .int .u8 t2, .int .u8 t3] 56) := ⟨_, rfl⟩
      have hB0 : Below w.heap.size w W0 := by rw [hW0]; exact ((Below.refl _ _).alloc (Nat.le_refl _) _).alloc (by simp) _
      have hX0 : W0.heap[w.heap.size + 1]? = some (.cells (u8s ts).toArray 56 (0, 0)) := by
        rw [hW0, HTS.out]
        have := heap_alloc_new (w.alloc (.cells #[.int .i64 k, .int .i64 e, .int .i64 n, .int .i64 l, .slice A ln c] 44)) (.cells #[.int .u8 t0, .int .u8 t1, .int .u8 t2, .int .u8 t3] 56)
        rw [World.size_alloc] at this
        exact this
      rw [← hW0]
      have HB0 := Aside0.mk hB0
      have HX0 := Aside0.mk hX0
      clear hW0 hB0 hX0
      obtain ⟨P, hP⟩ : ∃ P, P = putS k e n l d := ⟨_, rfl⟩
      have hp := xput_any k e n l A c d (Kd.C_below HC.out HB0.out) (by rw [← HLN.out]; exact hc) HBY.out
      rw [← hP, ← HLN.out] at hp
      have HPP := Aside0.mk hP
      clear hP
      refine hp.mono ?_
      clear hp
      rintro rr w1 ⟨v1, rfl, hr1, b1⟩
      have HB1 := Aside0.mk (HB0.out.trans (b1.mono HB0.out.size))
      have HX1 := Aside0.mk ((b1.block _ (blk_lt HX0.out)).trans HX0.out)
      have hbs := b1.size
      clear b1
      rcases puts_code k e n l d with ⟨hok, h2⟩ | ⟨_, h2⟩
      · have h2' : P.2 = 0 := by rw [HPP.out]; exact h2
        rw [h2']
        have hPs : P.1 = sealB (bodyS k e n l d) := by rw [HPP.out, put_body hok]
        have hbl := bodyS_len k e n l d (ok_parts hok).2.2.2.2.2.2.2.2
        have hPl : P.1.length = 64 := by rw [hPs, seal_len, hbl]
        have HPS := Aside0.mk hPs
        have HPL := Aside0.mk hPl
        have HBL := Aside0.mk hbl
        have HPB := Aside0.mk (show ∀ y ∈ P.1, 0 ≤ y ∧ y ≤ 255 from put_byte HBY.out HPP.out)
        obtain ⟨_, ho⟩ := Kd.own_of_R hr1
        rcases ho with ⟨_, hz⟩ | ⟨g, cap, cur, rfl, hbase, hbk, hn, hmx, hcs, hcur⟩
        · rw [hz] at hPl; cases hPl
        have hrow : w1.heap[g]? = some (.cells (u8s P.1 ++ cur.toList.drop P.1.length).toArray 5 (0, 0)) := by
          rw [hbk]
          have e : u8s P.1 = cur.toList.take P.1.length := by rw [Nat.mul_one] at hcur; exact hcur.symm
          rw [e, List.take_append_drop]
        obtain ⟨sp, hsp⟩ : ∃ sp, sp = cur.toList.drop P.1.length := ⟨_, rfl⟩
        rw [← hsp] at hrow
        have hn : 64 ≤ cap := by rw [← hPl]; exact hn
        have HGB := Aside0.mk (show w.heap.size ≤ g by have := HB0.out.size; omega)
        have HGN := Aside0.mk (show g ≠ w.heap.size + 1 by have := blk_lt HX0.out; omega)
        obtain ⟨an, han⟩ := Int.eq_ofNat_of_zero_le HA.out.1
        have HAN := Aside0.mk (show an ≤ 60 by have := HA.out.2; omega)
        have HROW := Aside0.mk (show w1.heap[g]? = some (.cells (u8s (bytesT P.1 an ts 0) ++ sp).toArray 5 (0, 0)) by rw [bytesT_zero P.1 hPl HPB.out]; exact hrow)
        rw [hPl]
        subst han
        clear hok h2 h2' hPs hbl hPl hbk hcs hcur hrow hsp hr1 hbase hmx hbs
        go_wp2_with fail
        go_loopg [9] 4 (fun gk v9 wr => ∃ (i : Nat), Aside0 (i + gk = 4) ∧ v9 = .int .i64 (i : Int) ∧ Aside0 (Below w.heap.size w wr) ∧ Aside0 (wr.heap[g]? = some (.cells (u8s (bytesT P.1 an ts i) ++ sp).toArray 5 (0, 0))) ∧ Aside0 (wr.heap[w.heap.size + 1]? = some (.cells (u8s ts).toArray 56 (0, 0))))
        case atStart => exact ⟨0, ⟨by omega⟩, by simp, HB1, HROW, HX1⟩
        case round =>
          clear HB1 HROW HX1
          obtain ⟨i, HI, rfl, HB, HROW, HX⟩ := hrel
          by_cases hi : i < 4
          · have hil : (i : Int) < 4 := by omega
            have hbl := bytesT_len P.1 an ts i
            have hix : an + i < 64 := by have := HAN.out; omega
            obtain ⟨x, hx⟩ : ∃ x, x = (bytesT P.1 an ts i).getD (an + i) 0 := ⟨_, rfl⟩
            obtain ⟨y, hy⟩ : ∃ y, y = ts.getD i 0 := ⟨_, rfl⟩
            have hxm : 0 ≤ x ∧ x ≤ 255 := by
              rw [hx, List.getD_eq_getElem?_getD, List.getElem?_eq_getElem (by rw [hbl]; exact hix)]
              exact bytesT_byte P.1 HPB.out an ts HTB.out i _ (List.getElem_mem _)
            have hym : 0 ≤ y ∧ y ≤ 255 := by
              rw [hy, List.getD_eq_getElem?_getD, List.getElem?_eq_getElem (by rw [HTL.out]; exact hi)]
              exact HTB.out _ (List.getElem_mem _)
            have hxor := bits_xor8 x y hxm hym
            have hm0 : ∀ m : Go.Reg.In (fun x => x = wr.drew), m.w.cell? ⟨g, an + i, none⟩ = some (.int .u8 x) := fun m => by
              rw [m.h, hx]
              refine (cell_blk (w := wr.drew) HROW.out).trans ?_
              rw [List.getElem?_toArray, List.getElem?_append_left (by rw [u8s_len, hbl]; exact hix), u8s_at _ _ (by rw [hbl]; exact hix)]
            have hm1 : ∀ m : Go.Reg.In (fun x => x = wr.drew), m.w.cell? ⟨w.heap.size + 1, i, none⟩ = some (.int .u8 y) := fun m => by
              rw [m.h, hy]
              refine (cell_blk (w := wr.drew) HX.out).trans ?_
              rw [List.getElem?_toArray, u8s_at _ _ (by rw [HTL.out]; exact hi)]
            have HXE := Aside0.mk hx
            have HYE := Aside0.mk hy
            have HBE := Aside0.mk hbl
            clear hx hy hxm hym hbl
            go_wp2_with fail
            refine Go.Reg.region (fun x => x = wr.drew) [.s, .s, .s, .s, .s, .s, .s, .s, .s, .s, .s, .s, .s, .s, .s, .x] (by kernel_rfl) (by kernel_rfl) rfl (fun ne => ?_)
            refine Go.Reg.lex_q 15 _ _ _ _ (by rfl) ?_; simp only [List.take_succ_cons, List.take_zero, List.drop_succ_cons, List.drop_zero]; (repeat (go_big_quiet_step (rfl)))
            refine wpQuiet_nil ?_
            refine Go.Reg.step_x (by rfl) (fun K hK => ?_)
            have hs0 : wr.cell? ⟨g, an + i, none⟩ = some (.int .u8 x) := hm0 ⟨wr.drew, rfl⟩
            have hs1 : wr.frozen? ⟨g, an + i, none⟩ = false := blk_frozen HROW.out _
            clear hm0 hm1
            go_wp2_with fail
            refine hK.out _ _ ?_
            clear hK K
            refine Go.Reg.lex_nil ?_
            clear hs0 hs1 hxor
            obtain ⟨w2, hw2⟩ : ∃ z, z = (wr.setCell ⟨g, an + i, none⟩ (.int .u8 (xb x y))).drew := ⟨_, rfl⟩
            have hR2 : w2.heap[g]? = some (.cells (u8s (bytesT P.1 an ts (i + 1)) ++ sp).toArray 5 (0, 0)) := by
              rw [hw2]
              refine (blk_set (w := wr) HROW.out (an + i) (.int .u8 (xb x y))).trans ?_
              rw [bytesT_succ P.1 HPL.out HPB.out an ts i hix, ← HXE.out, ← HYE.out]
              have e : (u8s (bytesT P.1 an ts i) ++ sp).set (an + i) (.int .u8 (xb x y)) = u8s ((bytesT P.1 an ts i).set (an + i) (xb x y)) ++ sp := by
                rw [List.set_append_left _ _ (by rw [u8s_len, HBE.out]; exact hix)]
                congr 1
                exact (List.map_set (f := Value.int .u8)).symm
              rw [← e]
              simp
            have hX2 : w2.heap[w.heap.size + 1]? = some (.cells (u8s ts).toArray 56 (0, 0)) := by
              rw [hw2]
              refine Eq.trans ?_ HX.out
              exact Below.heap_setCell _ _ _ _ (Ne.symm HGN.out)
            have hB2 : Below w.heap.size w w2 := by
              rw [hw2]
              exact below_drew1 (HB.out.setCell (p := ⟨g, an + i, none⟩) HGB.out _)
            rw [← hw2]
            have HR2 := Aside0.mk hR2
            have HX2 := Aside0.mk hX2
            have HB2 := Aside0.mk hB2
            clear hw2 hR2 hX2 hB2
            go_wp2_with fail
            go_roundg (gk - 1)
            case measure => have := HI.out; omega
            case rel => exact ⟨i + 1, ⟨by have := HI.out; omega⟩, by go_num, HB2, HR2, HX2⟩
          · have hi4 : i = 4 := by have := HI.out; omega
            subst hi4
            clear hi
            go_wp2_with fail
            obtain ⟨l, hl⟩ : ∃ l, l = bytesT P.1 an ts 4 := ⟨_, rfl⟩
            have hll : l.length = 64 := by rw [hl]; exact bytesT_len _ _ _ _
            have hlb : ∀ y ∈ l, 0 ≤ y ∧ y ≤ 255 := by rw [hl]; exact bytesT_byte P.1 HPB.out an ts HTB.out 4
            have ho : (openP l).2 = 12 := by rw [hl, HPS.out]; exact turned_bad _ HBL.out an HAN.out ts HTL.out HTB.out HNZ.out
            have hgs : (getS l).2 = 12 := by
              unfold getS
              rw [if_neg (by omega), if_pos (by omega)]
              exact ho
            have hlC : Kd.C (Kd.int .u8) wr (some ⟨g, 0, none⟩) l.length l := u8s_C (sp := sp) (by rw [hl]; exact HROW.out) rfl (by omega)
            have hg := get_no _ cap l hlC hlb (by omega) (by omega) (Or.inr (by omega))
            rw [hgs, hll] at hg
            refine hg.mono ?_
            clear hg hgs hlC ho hlb hll hl
            rintro rr w2 ⟨rfl, b2⟩
            have HB2 := Aside0.mk (HB.out.trans (b2.mono HB.out.size))
            clear b2
            go_wp2_with fail
            refine awake_any.mono ?_
            rintro rr w3 ⟨rfl, b⟩
            have HB3 := Aside0.mk ((HB2.out.alloc HB2.out.size _).trans (b.mono (by have := HB2.out.size; simp; omega)))
            clear b
            go_wp2_with fail
            go_ret
            exact ⟨rfl, HB3.out⟩
      · have h2' : P.2 = 1 := by rw [HPP.out]; exact h2
        rw [h2']
        obtain ⟨A1, c1, rfl⟩ := Kd.R_slice hr1
        clear h2 h2' hr1
        go_wp2_with fail
        refine awake_any.mono ?_
        rintro rr w2 ⟨rfl, b⟩
        have HB2 := Aside0.mk (HB1.out.trans (b.mono HB1.out.size))
        clear b
        go_wp2_with fail
        go_ret
        exact ⟨rfl, HB2.out⟩
end Sect
end Go.Proofs.Ytkfbegmfepehiaa
