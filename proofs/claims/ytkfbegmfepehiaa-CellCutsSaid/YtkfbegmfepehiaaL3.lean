/- awake of law09; the laws CellPuts and CellGets. -/
import Derived.Test.YtkfbegmfepehiaaL2
import Derived.Test.YtkfbegmfepehiaaL1
import Derived.KernelRfl
namespace Go.Proofs.Ytkfbegmfepehiaa
set_option linter.unusedVariables false
set_option linter.unusedSimpArgs false
open Go.RowKit Go.Proofs.YtkfbegmfepehiaaW.PrintWords Go.Proofs.YtkfbegmfepehiaaW.PrintLast Go.Proofs.YtkfbegmfepehiaaW.PrintMore
namespace Cell
open Go.Num Go.Crc PCellGets
theorem cut_ex : cutP 3 [5, 9] (List.replicate 300 0) = ([⟨3, 0, 9, List.replicate 242 0⟩, ⟨3, 1, 0, List.replicate 58 0⟩], 0) := by kernel_rfl
theorem cut_ex2 : cutP 3 [5] (List.replicate 300 0) = ([], 1) := by kernel_rfl
theorem join_ex : PCellCuts.cell_Join.f 5 [⟨1, 0, 7, [1]⟩] = some ([], false) := by kernel_rfl
theorem ok_ex : cellOk 1 0 7 [1] = true := by decide
theorem put_ex : (putP 1 0 7 [1]).2 = 0 ∧ (putP 1 0 7 [1]).1.length = 256 := by
  rw [put_body ok_ex]
  exact ⟨rfl, by rw [seal_len, bodyC_len _ _ _ _ (by decide)]⟩
theorem put_ex2 : (putP 1 0 0 []).2 = 1 := by decide
theorem get_ex2 : (getP []).2 = 11 := rfl
theorem get_ex3 : (getP (List.replicate 256 0)).2 = 12 := by kernel_rfl
theorem makeN (n : Nat) (hn : n ≤ 1000000) (l : List Int) (hl : l = List.replicate n 0) (W : World) : (Instr.makeSlice 22 (.int .i64 (n : Int)) (.int .i64 (n : Int))).run Try.prog W = .ok (.slice (some ⟨W.heap.size, 0, none⟩) n n) (W.alloc (.cells (u8s l).toArray 5)) := by
  have := make8 n hn W
  rw [made8] at this
  rw [hl]
  exact this
theorem new8 (w : World) (l : List Int) (hl : l.length ≤ 1000000) (x : World) (hx : Below (w.alloc (.cells (u8s l).toArray 5)).heap.size (w.alloc (.cells (u8s l).toArray 5)) x) : Kd.C (Kd.int .u8) x (some ⟨w.heap.size, 0, none⟩) l.length l := by
  have h : (w.alloc (.cells (u8s l).toArray 5)).heap[w.heap.size]? = some (.cells (l.map (Value.int .u8) ++ []).toArray 5 (0, 0)) := by rw [List.append_nil]; exact heap_alloc_new w _
  exact Kd.C_below (row_at (row_of (base := 0) (ok := fun _ => True) (cap := l.length) h (Nat.zero_le _) trivial (by simp) (by omega))) hx
theorem rowV {k : IntKind} {w : World} {b t : Nat} {l : List Int} (hb : w.heap[b]? = some (.cells (l.map (Value.int k)).toArray t (0, 0))) (hl : l.length ≤ 1000000) : Kd.C (Kd.int k) w (some ⟨b, 0, none⟩) l.length l := by
  refine Kd.C_of_reads (enc := fun x => Value.int k x) (d := (0:Int)) (h1 := fun _ => rfl) ⟨rfl, by omega, fun _ => ⟨_, rfl, fun j hj => ?_⟩⟩
  have hadd : (⟨b, 0, none⟩ : Addr).add j = ⟨b, j, none⟩ := by unfold Addr.add; split <;> simp_all
  rw [hadd, cell_blk hb, List.getElem?_toArray, List.getElem?_map, List.getD_eq_getElem?_getD, List.getElem?_eq_getElem hj]
  rfl
theorem rowC1 {w : World} {b t : Nat} {x : Ce} {A : Option Addr} {c : Nat} (hb : w.heap[b]? = some (.cells #[.int .i64 x.f0, .int .i64 x.f1, .int .i64 x.f2, .slice A x.f3.length c] t (0, 0))) (hl : x.f3.length ≤ c) (hC : Kd.C (Kd.int .u8) w A x.f3.length x.f3) : Kd.C PCellCuts.k24 w (some ⟨b, 0, none⟩) 1 [x] :=
  ⟨rfl, by decide, fun _ => ⟨_, rfl, fun j p hj => by
    obtain ⟨rfl, rfl⟩ : j = 0 ∧ x = p := by
      cases j with
      | zero => exact ⟨rfl, by simpa using hj⟩
      | succ j => simp at hj
    refine ⟨_, rfl, PCellCuts.k24_mk w x hl hC, fun i u hu => ?_⟩
    have hadd : (⟨b, 0, none⟩ : Addr).add (0 * PCellCuts.k24.sz + i) = ⟨b, i, none⟩ := by unfold Addr.add; split <;> simp_all
    rw [hadd, cell_blk hb, List.getElem?_toArray]
    exact hu⟩⟩
theorem byte0 (n : Nat) : ∀ x ∈ List.replicate n (0 : Int), 0 ≤ x ∧ x ≤ 255 := fun x hx => by rw [(List.mem_replicate.1 hx).2]; decide
theorem stable_R {w : World} {b : Nat} {ok : Nat → Prop} {A : Option Addr} {c t : Nat} {l : List Int} (h : Kd.R (Kd.int .u8) t w b ok (.slice A l.length c) l) : ∀ x, Below w.heap.size w x → Kd.C (Kd.int .u8) x A l.length l := fun x hx => by
  obtain ⟨A', c', e, hc⟩ := Kd.R_reads h
  cases e
  exact Kd.C_below hc.2 hx
theorem aw_cut2 (w : World) (z : List Int) (hz : z = List.replicate 300 0) : Calls Try.prog 16 #[.int .i64 3, .slice (some ⟨w.heap.size, 0, none⟩) 1 1, .slice (some ⟨w.heap.size + 1, 0, none⟩) 300 300] ((w.alloc (.cells #[.int .i64 5] 3)).alloc (.cells (u8s z).toArray 5)) fun e w' => ∃ A c, e = .returned (.tuple #[.slice A 0 c, .int .i64 1]) ∧ Below w.heap.size w w' := by
  have hzl : z.length = 300 := by rw [hz]; exact List.length_replicate
  have h1 : ((w.alloc (.cells #[.int .i64 5] 3)).alloc (.cells (u8s z).toArray 5)).heap[w.heap.size]? = some (.cells (([5] : List Int).map (Value.int .i64)).toArray 3 (0, 0)) := (Below.heap_alloc _ _ _ (by simp)).trans (heap_alloc_new w _)
  have hCz := new8 (w.alloc (.cells #[.int .i64 5] 3)) z (by omega) _ (Below.refl _ _)
  rw [World.size_alloc] at hCz
  have hC := cut_any 3 (some ⟨w.heap.size, 0, none⟩) 1 [5] (some ⟨w.heap.size + 1, 0, none⟩) 300 z (rowV h1 (by decide)) hCz (by decide) (by omega) (by omega) (by decide) (by rw [hz]; exact byte0 300)
  rw [show cutP 3 [5] z = ([], 1) by rw [hz]; exact cut_ex2, hzl] at hC
  refine hC.mono ?_
  rintro e w1 ⟨A1, c1, rfl, hc1, hrow1, b1⟩
  exact ⟨A1, c1, rfl, (((Below.refl _ _).alloc (Nat.le_refl _) _).alloc (by simp) _).trans (b1.mono (by simp; omega))⟩
theorem aw_put (w : World) (V : List Int) (hV : V = (putP 1 0 7 [1]).1) : Calls Try.prog 11 #[.agg #[.int .i64 1, .int .i64 0, .int .i64 7, .slice (some ⟨w.heap.size, 0, none⟩) 1 1]] (w.alloc (.cells #[.int .u8 1] 5)) fun e w' => ∃ A c, e = .returned (.tuple #[.slice A 256 c, .int .i64 0]) ∧ 256 ≤ c ∧ (∀ x, Below w'.heap.size w' x → Kd.C (Kd.int .u8) x A 256 V) ∧ Below w.heap.size w w' := by
  have h1 : (w.alloc (.cells #[.int .u8 1] 5)).heap[w.heap.size]? = some (.cells (([1] : List Int).map (Value.int .u8)).toArray 5 (0, 0)) := heap_alloc_new w _
  have hC := put_any 1 0 7 (some ⟨w.heap.size, 0, none⟩) 1 [1] (rowV h1 (by decide)) (by decide) (by decide)
  obtain ⟨hp2, hp1⟩ := put_ex
  rw [hp2, ← hV] at hC
  rw [← hV] at hp1
  refine hC.mono ?_
  rintro e w1 ⟨v, rfl, hr, b1⟩
  obtain ⟨A, c, rfl⟩ := Kd.R_slice hr
  have hl := (Kd.R_reads' hr).2.1
  have hs := stable_R hr
  rw [hp1] at hs hl
  rw [hp1]
  exact ⟨A, c, rfl, hl, hs, ((Below.refl _ _).alloc (Nat.le_refl _) _).trans (b1.mono (by simp))⟩
theorem aw_get (w : World) (V : List Int) (A : Option Addr) (c : Nat) (hV : V = (putP 1 0 7 [1]).1) (hC : Kd.C (Kd.int .u8) w A 256 V) (hc : 256 ≤ c) : Calls Try.prog 13 #[.slice A 256 c] w fun e w' => ∃ A' c', e = .returned (.tuple #[.agg #[.int .i64 1, .int .i64 0, .int .i64 7, .slice A' 1 c'], .int .i64 0]) ∧ 1 ≤ c' ∧ (∀ x, Below w'.heap.size w' x → Kd.C (Kd.int .u8) x A' 1 [1]) ∧ Below w.heap.size w w' := by
  obtain ⟨hp2, hp1⟩ := put_ex
  have hg := get_put 1 0 7 [1] ok_ex
  rw [← hV] at hp1 hg
  have h0 : (openP V).2 = 0 := by
    have : (getP V).2 = 0 := by rw [hg]
    unfold getP at this
    rw [if_neg (by omega)] at this
    exact Classical.byContradiction (fun e => by rw [if_pos e] at this; exact e this)
  have hb : ∀ y ∈ V, 0 ≤ y ∧ y ≤ 255 := by
    rw [hV, put_body ok_ex]
    exact seal_byte (bodyC_byte _ _ _ _ (by decide))
  have h := get_yes A c V (by rw [hp1]; exact hC) hb (by omega) hp1 h0
  rw [hg, hp1] at h
  refine h.mono ?_
  rintro e w1 ⟨v, rfl, hr, b1⟩
  obtain ⟨A', c', rfl⟩ := Kd.R_slice hr
  exact ⟨A', c', rfl, (Kd.R_reads' hr).2.1, stable_R hr, b1⟩
theorem aw_get2 (w : World) (z : List Int) (hz : z = List.replicate 256 0) : Calls Try.prog 13 #[.slice (some ⟨w.heap.size, 0, none⟩) 256 256] (w.alloc (.cells (u8s z).toArray 5)) fun e w' => e = .returned (.tuple #[.agg #[.int .i64 0, .int .i64 0, .int .i64 0, .slice none 0 0], .int .i64 12]) ∧ Below w.heap.size w w' := by
  have hzl : z.length = 256 := by rw [hz]; exact List.length_replicate
  have hg : (getP z).2 = 12 := by rw [hz]; exact get_ex3
  have hno : (openP z).2 ≠ 0 := fun e => by
    have h := hg
    unfold getP at h
    rw [if_neg (by omega), if_neg (by simp [e])] at h
    split at h <;> (revert h; simp)
  have h := get_no (some ⟨w.heap.size, 0, none⟩) 256 z (new8 w z (by omega) _ (Below.refl _ _)) (by rw [hz]; exact byte0 256) (by omega) (by omega) (Or.inr hno)
  rw [hg, hzl] at h
  exact h.mono (fun e w' hh => ⟨hh.1, ((Below.refl _ _).alloc (Nat.le_refl _) _).trans (hh.2.mono (by simp))⟩)
theorem aw_get3 (w : World) : Calls Try.prog 13 #[.slice none 0 0] w fun e w' => e = .returned (.tuple #[.agg #[.int .i64 0, .int .i64 0, .int .i64 0, .slice none 0 0], .int .i64 11]) ∧ Below w.heap.size w w' := 
  get_no none 0 [] (nilC w) (fun y hy => by cases hy) (Nat.le_refl _) (by decide) (Or.inl (by decide))
theorem aw_put2 (w : World) : Calls Try.prog 11 #[.agg #[.int .i64 1, .int .i64 0, .int .i64 0, .slice none 0 0]] w fun e w' => ∃ A n c, e = .returned (.tuple #[.slice A n c, .int .i64 1]) ∧ Below w.heap.size w w' := by
  have h := put_any 1 0 0 none 0 [] (nilC w) (Nat.le_refl _) (fun y hy => by cases hy)
  rw [put_ex2] at h
  refine h.mono ?_
  rintro e w1 ⟨v, rfl, hr, b1⟩
  obtain ⟨A', c', rfl⟩ := Kd.R_slice hr
  exact ⟨A', _, c', rfl, b1⟩
theorem aw_same (w : World) (A A' : Option Addr) (c c' : Nat) (hC : Kd.C (Kd.int .u8) w A 1 [1]) (hc : 1 ≤ c) (hC' : Kd.C (Kd.int .u8) w A' 1 [1]) (hc' : 1 ≤ c') : Calls Try.prog 14 #[.agg #[.int .i64 1, .int .i64 0, .int .i64 7, .slice A 1 c], .agg #[.int .i64 1, .int .i64 0, .int .i64 7, .slice A' 1 c']] w fun e w' => e = .returned (.bool true) ∧ Below w.heap.size w w' :=
  same_any 1 0 7 1 0 7 A A' c c' [1] [1] hC hc hC' hc' ⟨rfl, rfl, rfl, rfl⟩
set_option maxHeartbeats 16000000 in
set_option maxRecDepth 100000 in
theorem awake_any {w : World} : Calls Try.prog 10 #[] w fun e w' => e = .returned (.bool true) ∧ Below w.heap.size w w' := by
  obtain ⟨z3, hz3⟩ : ∃ l, l = List.replicate 300 (0 : Int) := ⟨_, rfl⟩
  have hm3 := makeN 300 (by omega) z3 hz3
  rw [show ((300 : Nat) : Int) = 300 from rfl] at hm3
  have HZ3 := Aside0.mk hz3
  clear hz3
  obtain ⟨z2, hz2⟩ : ∃ l, l = List.replicate 256 (0 : Int) := ⟨_, rfl⟩
  have hm2 := makeN 256 (by omega) z2 hz2
  rw [show ((256 : Nat) : Int) = 256 from rfl] at hm2
  have HZ2 := Aside0.mk hz2
  clear hz2
  go_enter Try.func10, Try.ntmps10
  go_wp2_with fail
  obtain ⟨wa, hwa⟩ : ∃ wa, wa = (w.alloc (.cells #[.int .i64 5, .int .i64 9] 3)) := ⟨_, rfl⟩
  obtain ⟨wb, hwb⟩ : ∃ wb, wb = wa.alloc (.cells (u8s z3).toArray 5) := ⟨_, rfl⟩
  have h59 : wa.heap[w.heap.size]? = some (.cells (([5, 9] : List Int).map (Value.int .i64)).toArray 3 (0, 0)) := by rw [hwa]; exact heap_alloc_new w _
  have hba : Below w.heap.size w wa := by rw [hwa]; exact (Below.refl _ _).alloc (Nat.le_refl _) _
  have hbb : Below wa.heap.size wa wb := by rw [hwb]; exact (Below.refl _ _).alloc (Nat.le_refl _) _
  have hsa : wa.heap.size = w.heap.size + 1 := by rw [hwa]; simp
  rw [← hwa, ← hwb, ← hsa]
  have hzl : z3.length = 300 := by rw [HZ3.out]; exact List.length_replicate
  have hCz : Kd.C (Kd.int .u8) wb (some ⟨wa.heap.size, 0, none⟩) z3.length z3 := by
    rw [hwb]
    exact new8 wa z3 (by omega) _ (Below.refl _ _)
  have hCut := cut_any 3 (some ⟨w.heap.size, 0, none⟩) 2 [5, 9] (some ⟨wa.heap.size, 0, none⟩) 300 z3 (Kd.C_below (rowV h59 (by decide)) hbb) hCz (by decide) (by omega) (by omega) (by decide) (by rw [HZ3.out]; exact byte0 300)
  rw [show cutP 3 [5, 9] z3 = ([⟨3, 0, 9, List.replicate 242 0⟩, ⟨3, 1, 0, List.replicate 58 0⟩], 0) by rw [HZ3.out]; exact cut_ex, hzl] at hCut
  have HBB := Aside0.mk (hba.trans (hbb.mono hba.size))
  clear hwa hwb h59 hba hbb hsa hzl hCz
  refine hCut.mono ?_
  clear hCut
  rintro e w1 ⟨A1, c1, rfl, hc1, hrow1, b1⟩
  obtain ⟨CE, hCE⟩ : ∃ CE : List Ce, CE = [⟨3, 0, 9, List.replicate 242 0⟩, ⟨3, 1, 0, List.replicate 58 0⟩] := ⟨_, rfl⟩
  have HCE := Aside0.mk hCE
  have HROW := Aside0.mk (show ∀ x, Below w1.heap.size w1 x → Kd.C PCellCuts.k24 x A1 CE.length CE from fun x hx => by rw [hCE]; exact hrow1 x hx)
  have HB1 := Aside0.mk (HBB.out.trans (b1.mono HBB.out.size))
  clear hrow1 b1 hCE
  go_wp2_with fail
  have hj : ∃ k, PCellCuts.cell_Join.f k CE = some (z3, true) := by
    obtain ⟨k, hk⟩ := join_cut 3 [5, 9] z3 (by rw [HZ3.out]; decide)
    rw [show cutP 3 [5, 9] z3 = (CE, 0) by rw [HZ3.out, HCE.out]; exact cut_ex] at hk
    exact ⟨k, hk⟩
  obtain ⟨k, hk⟩ := hj
  have hJ := PCellCuts.cell_Join.calls k A1 c1 CE z3 true w1 (HROW.out _ (Below.refl _ _)) (by rw [HCE.out]; exact hc1) hk
  rw [show CE.length = 2 by rw [HCE.out]; rfl] at hJ
  clear hk
  refine hJ.mono ?_
  clear hJ
  rintro e w2 ⟨v2, rfl, hr2, b2⟩
  obtain ⟨A2, c2, rfl⟩ := Kd.R_slice hr2
  have HB2 := Aside0.mk (HB1.out.trans (b2.mono HB1.out.size))
  have HROW2 := Aside0.mk (show ∀ x, Below w2.heap.size w2 x → Kd.C PCellCuts.k24 x A1 CE.length CE from fun x hx => HROW.out x (b2.trans (hx.mono b2.size)))
  rw [show z3.length = 300 by rw [HZ3.out]; exact List.length_replicate]
  clear hr2 b2 hc1
  go_wp2_with fail
  obtain ⟨w3, hw3⟩ : ∃ w3, w3 = (w2.alloc (.cells #[.int .u8 1] 5)).alloc (.cells #[.int .i64 1, .int .i64 0, .int .i64 7, .slice (some ⟨w2.heap.size, 0, none⟩) 1 1] 24) := ⟨_, rfl⟩
  have hb3 : Below w2.heap.size w2 w3 := by rw [hw3]; exact ((Below.refl _ _).alloc (Nat.le_refl _) _).alloc (by simp) _
  have h31 : w3.heap[w2.heap.size]? = some (.cells (([1] : List Int).map (Value.int .u8)).toArray 5 (0, 0)) := by
    rw [hw3]
    exact (Below.heap_alloc _ _ _ (by simp)).trans (heap_alloc_new w2 _)
  have h32 : w3.heap[w2.heap.size + 1]? = some (.cells #[.int .i64 1, .int .i64 0, .int .i64 7, .slice (some ⟨w2.heap.size, 0, none⟩) 1 1] 24 (0, 0)) := by
    rw [hw3]
    have := heap_alloc_new (w2.alloc (.cells #[.int .u8 1] 5)) (.cells #[.int .i64 1, .int .i64 0, .int .i64 7, .slice (some ⟨w2.heap.size, 0, none⟩) 1 1] 24)
    rw [World.size_alloc] at this
    exact this
  rw [← hw3]
  have hr3 : Kd.C PCellCuts.k24 w3 (some ⟨w2.heap.size + 1, 0, none⟩) 1 [(⟨1, 0, 7, [1]⟩ : Ce)] := rowC1 h32 (by decide) (rowV h31 (by decide))
  have HB3 := Aside0.mk (HB2.out.trans (hb3.mono HB2.out.size))
  have HROW3 := Aside0.mk (show ∀ x, Below w3.heap.size w3 x → Kd.C PCellCuts.k24 x A1 CE.length CE from fun x hx => HROW2.out x (hb3.trans (hx.mono hb3.size)))
  have hJ := PCellCuts.cell_Join.calls 5 (some ⟨w2.heap.size + 1, 0, none⟩) 1 [(⟨1, 0, 7, [1]⟩ : Ce)] [] false w3 hr3 (by decide) join_ex
  rw [show [(⟨1, 0, 7, [1]⟩ : Ce)].length = 1 from rfl] at hJ
  clear hw3 hb3 h31 h32 hr3
  refine hJ.mono ?_
  clear hJ
  rintro e w4 ⟨v4, rfl, hr4, b4⟩
  obtain ⟨A4, c4, rfl⟩ := Kd.R_slice hr4
  have HB4 := Aside0.mk (HB3.out.trans (b4.mono HB3.out.size))
  have HROW4 := Aside0.mk (show ∀ x, Below w4.heap.size w4 x → Kd.C PCellCuts.k24 x A1 CE.length CE from fun x hx => HROW3.out x (b4.trans (hx.mono b4.size)))
  rw [show ([] : List Int).length = 0 from rfl]
  clear hr4 b4 HROW HROW2 HROW3 HB1 HB2 HB3
  go_wp2_with fail
  refine (aw_cut2 w4 z3 HZ3.out).mono ?_
  rintro e w5 ⟨A5, c5, rfl, b5⟩
  have HB5 := Aside0.mk (HB4.out.trans (b5.mono HB4.out.size))
  have HROW5 := Aside0.mk (show ∀ x, Below w5.heap.size w5 x → Kd.C PCellCuts.k24 x A1 CE.length CE from fun x hx => HROW4.out x (b5.trans (hx.mono b5.size)))
  clear b5 HB4 HROW4
  go_wp2_with fail
  obtain ⟨V, hV⟩ : ∃ V, V = (putP 1 0 7 [1]).1 := ⟨_, rfl⟩
  have HV := Aside0.mk hV
  clear hV
  refine (aw_put w5 V HV.out).mono ?_
  rintro e w6 ⟨A6, c6, rfl, hc6, hr6, b6⟩
  have HB6 := Aside0.mk (HB5.out.trans (b6.mono HB5.out.size))
  have HROW6 := Aside0.mk (show ∀ x, Below w6.heap.size w6 x → Kd.C PCellCuts.k24 x A1 CE.length CE from fun x hx => HROW5.out x (b6.trans (hx.mono b6.size)))
  have HR6 := Aside0.mk hr6
  clear b6 HB5 HROW5 hr6
  go_wp2_with fail
  refine (aw_get w6 V A6 c6 HV.out (HR6.out _ (Below.refl _ _)) hc6).mono ?_
  clear HR6
  rintro e w7 ⟨A7, c7, rfl, hc7, hr7, b7⟩
  have HB7 := Aside0.mk (HB6.out.trans (b7.mono HB6.out.size))
  have HROW7 := Aside0.mk (show ∀ x, Below w7.heap.size w7 x → Kd.C PCellCuts.k24 x A1 CE.length CE from fun x hx => HROW6.out x (b7.trans (hx.mono b7.size)))
  have HR7 := Aside0.mk hr7
  clear b7 HB6 HROW6 hr7
  go_wp2_with fail
  obtain ⟨w8, hw8⟩ : ∃ w8, w8 = (w7.alloc (.cells #[.int .i64 1, .int .i64 0, .int .i64 7, .slice A7 1 c7] 24)) := ⟨_, rfl⟩
  have h8 : w8.heap[w7.heap.size]? = some (.cells #[.int .i64 1, .int .i64 0, .int .i64 7, .slice A7 1 c7] 24 (0, 0)) := by rw [hw8]; exact heap_alloc_new w7 _
  have b8 : Below w7.heap.size w7 w8 := by rw [hw8]; exact (Below.refl _ _).alloc (Nat.le_refl _) _
  have hs8 : w7.heap.size + 1 = w8.heap.size := by rw [hw8]; simp
  rw [← hw8, hs8]
  have HB8 := Aside0.mk (HB7.out.trans (b8.mono HB7.out.size))
  have HROW8 := Aside0.mk (show ∀ x, Below w8.heap.size w8 x → Kd.C PCellCuts.k24 x A1 CE.length CE from fun x hx => HROW7.out x (b8.trans (hx.mono b8.size)))
  have HR8 := Aside0.mk (show ∀ x, Below w8.heap.size w8 x → Kd.C (Kd.int .u8) x A7 1 [1] from fun x hx => HR7.out x (b8.trans (hx.mono b8.size)))
  have HC8 := Aside0.mk (show ∀ x, Below w8.heap.size w8 x → x.heap[w7.heap.size]? = some (.cells #[.int .i64 1, .int .i64 0, .int .i64 7, .slice A7 1 c7] 24 (0, 0)) from fun x hx => (hx.block _ (by omega)).trans h8)
  clear hw8 h8 b8 hs8 HB7 HROW7 HR7
  refine (aw_get2 w8 z2 HZ2.out).mono ?_
  rintro e w9 ⟨rfl, b9⟩
  have HB9 := Aside0.mk (HB8.out.trans (b9.mono HB8.out.size))
  have H89 := Aside0.mk b9
  clear b9 HB8
  go_wp2_with fail
  obtain ⟨wc, hwc⟩ : ∃ wc, wc = (w9.alloc (.cells #[.int .i64 0, .int .i64 0, .int .i64 0, .slice none 0 0] 24)) := ⟨_, rfl⟩
  have bc : Below w9.heap.size w9 wc := by rw [hwc]; exact (Below.refl _ _).alloc (Nat.le_refl _) _
  rw [← hwc]
  have HBC := Aside0.mk (HB9.out.trans (bc.mono HB9.out.size))
  have H8C := Aside0.mk (H89.out.trans (bc.mono H89.out.size))
  clear hwc bc HB9 H89
  refine (aw_get3 wc).mono ?_
  rintro e wd ⟨rfl, bd⟩
  have HBD := Aside0.mk (HBC.out.trans (bd.mono HBC.out.size))
  have H8D := Aside0.mk (H8C.out.trans (bd.mono H8C.out.size))
  clear bd HBC H8C
  go_wp2_with fail
  obtain ⟨wf, hwf⟩ : ∃ wf, wf = (wd.alloc (.cells #[.int .i64 0, .int .i64 0, .int .i64 0, .slice none 0 0] 24)) := ⟨_, rfl⟩
  have bf : Below wd.heap.size wd wf := by rw [hwf]; exact (Below.refl _ _).alloc (Nat.le_refl _) _
  rw [← hwf]
  have HBF := Aside0.mk (HBD.out.trans (bf.mono HBD.out.size))
  have H8F := Aside0.mk (H8D.out.trans (bf.mono H8D.out.size))
  clear hwf bf HBD H8D
  refine (aw_put2 wf).mono ?_
  rintro e wg ⟨A9, n9, c9, rfl, bg⟩
  have HBG := Aside0.mk (HBF.out.trans (bg.mono HBF.out.size))
  have H8G := Aside0.mk (H8F.out.trans (bg.mono H8F.out.size))
  clear bg HBF H8F
  have hCx : Kd.C PCellCuts.k24 wg A1 2 CE := by
    have := HROW8.out wg H8G.out
    rw [show CE.length = 2 by rw [HCE.out]; rfl] at this
    exact this
  obtain ⟨ad, A30, c30, rfl, -, -, hx2, -, -, -⟩ := PCellCuts.at_T24 hCx 0 (by decide) (by decide)
  obtain ⟨ad', A31, c31, e', -, hy1, hy2, hy3, -, -⟩ := PCellCuts.at_T24 hCx 1 (by decide) (by decide)
  cases e'
  rw [HCE.out] at hx2 hy1 hy2 hy3
  have hx2 : wg.cell? ⟨ad.block, ad.off + 2, none⟩ = some (.int .i64 9) := hx2
  have hy1 : wg.cell? ⟨ad.block, ad.off + 4 + 1, none⟩ = some (.int .i64 1) := hy1
  have hy2 : wg.cell? ⟨ad.block, ad.off + 4 + 2, none⟩ = some (.int .i64 0) := hy2
  have hy3 : wg.cell? ⟨ad.block, ad.off + 4 + 3, none⟩ = some (.slice A31 58 c31) := hy3
  have h8 := HC8.out wg H8G.out
  have hz0 : wg.cell? ⟨w7.heap.size, 0, none⟩ = some (.int .i64 1) := by rw [cell_blk h8]; rfl
  have hz1 : wg.cell? ⟨w7.heap.size, 1, none⟩ = some (.int .i64 0) := by rw [cell_blk h8]; rfl
  have hz2 : wg.cell? ⟨w7.heap.size, 2, none⟩ = some (.int .i64 7) := by rw [cell_blk h8]; rfl
  have hz4 : wg.cell? ⟨w7.heap.size, 3, none⟩ = some (.slice A7 1 c7) := by rw [cell_blk h8]; rfl
  have HR7 := HR8.out wg H8G.out
  clear hCx h8
  go_wp2_with fail
  have h11 : (wg.alloc (.cells #[.int .u8 1] 5)).heap[wg.heap.size]? = some (.cells (([1] : List Int).map (Value.int .u8)).toArray 5 (0, 0)) := heap_alloc_new wg _
  refine (aw_same _ A7 (some ⟨wg.heap.size, 0, none⟩) c7 1 (Kd.C_below HR7 ((Below.refl _ _).alloc (Nat.le_refl _) _)) hc7 (rowV h11 (by decide)) (Nat.le_refl _)).mono ?_
  rintro e wh ⟨rfl, bh⟩
  have HBH := Aside0.mk (HBG.out.trans ((((Below.refl _ _).alloc (Nat.le_refl _) _).trans (bh.mono (by simp))).mono HBG.out.size))
  clear h11 bh hz0 hz1 hz2 hz4 HR7 hx2 hy1 hy2 hy3 HBG
  go_wp2_with fail
  refine (need_any 243 (by decide)).mono ?_
  rw [show ((needP 243 : Nat) : Int) = 2 from rfl]
  rintro e wi ⟨rfl, bi⟩
  have HBI := Aside0.mk (HBH.out.trans (bi.mono HBH.out.size))
  clear bi
  go_wp2_with fail
  refine (need_any 0 (by decide)).mono ?_
  rw [show ((needP 0 : Nat) : Int) = 0 from rfl]
  rintro e wj ⟨rfl, bj⟩
  have HBJ := Aside0.mk (HBI.out.trans (bj.mono HBI.out.size))
  clear bj
  go_wp2_with fail
  go_ret
  exact ⟨rfl, HBJ.out⟩
end Cell
end Go.Proofs.Ytkfbegmfepehiaa
namespace Go.Proofs.Ytkfbegmfepehiaa
set_option linter.unusedVariables false
set_option linter.unusedSimpArgs false
open Go.RowKit Go.Proofs.YtkfbegmfepehiaaW.PrintWords Go.Proofs.YtkfbegmfepehiaaW.PrintLast Go.Proofs.YtkfbegmfepehiaaW.PrintMore
namespace Cell
open Go.Num Go.Crc PCellGets
theorem cells4 {x : World} {b t : Nat} {v0 v1 v2 v3 : Value} (h : x.heap[b]? = some (.cells #[v0, v1, v2, v3] t (0, 0))) : x.cell? ⟨b, 0, none⟩ = some v0 ∧ x.cell? ⟨b, 1, none⟩ = some v1 ∧ x.cell? ⟨b, 2, none⟩ = some v2 ∧ x.cell? ⟨b, 3, none⟩ = some v3 := ⟨cell_blk h, cell_blk h, cell_blk h, cell_blk h⟩
/-- The program's Get, of any bytes. -/
theorem get_any {w : World} (A : Option Addr) (c : Nat) (l : List Int) (hC : Kd.C (Kd.int .u8) w A l.length l) (hb : ∀ y ∈ l, 0 ≤ y ∧ y ≤ 255) (hc : l.length ≤ c) (hl : l.length ≤ 200000) :
    Calls Try.prog 13 #[.slice A l.length c] w fun e w' => ∃ A' c', e = .returned (.tuple #[.agg #[.int .i64 (getP l).1.o, .int .i64 (getP l).1.n, .int .i64 (getP l).1.x, .slice A' (getP l).1.d.length c'], .int .i64 (getP l).2]) ∧ (getP l).1.d.length ≤ c' ∧ (∀ x, Below w'.heap.size w' x → Kd.C (Kd.int .u8) x A' (getP l).1.d.length (getP l).1.d) ∧ Below w.heap.size w w' := by
  by_cases h : l.length ≠ 256 ∨ (openP l).2 ≠ 0
  · refine (get_no A c l hC hb hc hl h).mono ?_
    rintro e w1 ⟨rfl, b⟩
    have hz : (getP l).1 = zeroC := by
      unfold getP
      by_cases h1 : l.length ≠ 256
      · rw [if_pos h1]
      · rw [if_neg h1, if_pos (h.resolve_left h1)]
    rw [hz]
    exact ⟨none, 0, rfl, Nat.le_refl _, fun x _ => nilC x, b⟩
  · have h1 : l.length = 256 := Classical.byContradiction (fun e => h (Or.inl e))
    have h2 : (openP l).2 = 0 := Classical.byContradiction (fun e => h (Or.inr e))
    refine (get_yes A c l hC hb hc h1 h2).mono ?_
    rintro e w1 ⟨v, rfl, hr, b⟩
    obtain ⟨A', c', rfl⟩ := Kd.R_slice hr
    exact ⟨A', c', rfl, (Kd.R_reads' hr).2.1, stable_R hr, b⟩
theorem xget_any {w : World} (A : Option Addr) (c : Nat) (l : List Int) (hC : Kd.C (Kd.int .u8) w A l.length l) (hb : ∀ y ∈ l, 0 ≤ y ∧ y ≤ 255) (hc : l.length ≤ c) (hl : l.length ≤ 200000) :
    Calls Try.prog 15 #[.slice A l.length c] w fun e w' => ∃ A' c', e = .returned (.tuple #[.agg #[.int .i64 (getP l).1.o, .int .i64 (getP l).1.n, .int .i64 (getP l).1.x, .slice A' (getP l).1.d.length c'], .int .i64 (getP l).2]) ∧ (getP l).1.d.length ≤ c' ∧ (∀ x, Below w'.heap.size w' x → Kd.C (Kd.int .u8) x A' (getP l).1.d.length (getP l).1.d) ∧ Below w.heap.size w w' := by
  by_cases h : l.length ≠ 256 ∨ (openP l).2 ≠ 0
  · exact xget_no A c l hC hb hc hl h
  · have h1 : l.length = 256 := Classical.byContradiction (fun e => h (Or.inl e))
    have h2 : (openP l).2 = 0 := Classical.byContradiction (fun e => h (Or.inr e))
    exact xget_yes A c l hC hb hc h1 h2
theorem put_anyC {w : World} (o n x : Int) (A : Option Addr) (c : Nat) (d : List Int) (hC : Kd.C (Kd.int .u8) w A d.length d) (hc : d.length ≤ c) (hb : ∀ y ∈ d, 0 ≤ y ∧ y ≤ 255) :
    Calls Try.prog 11 #[.agg #[.int .i64 o, .int .i64 n, .int .i64 x, .slice A d.length c]] w fun e w' => ∃ A' c', e = .returned (.tuple #[.slice A' (putP o n x d).1.length c', .int .i64 (putP o n x d).2]) ∧ (putP o n x d).1.length ≤ c' ∧ (∀ x', Below w'.heap.size w' x' → Kd.C (Kd.int .u8) x' A' (putP o n x d).1.length (putP o n x d).1) ∧ Below w.heap.size w w' := by
  refine (put_any o n x A c d hC hc hb).mono ?_
  rintro e w1 ⟨v, rfl, hr, b⟩
  obtain ⟨A', c', rfl⟩ := Kd.R_slice hr
  exact ⟨A', c', rfl, (Kd.R_reads' hr).2.1, stable_R hr, b⟩
theorem xput_anyC {w : World} (o n x : Int) (A : Option Addr) (c : Nat) (d : List Int) (hC : Kd.C (Kd.int .u8) w A d.length d) (hc : d.length ≤ c) (hb : ∀ y ∈ d, 0 ≤ y ∧ y ≤ 255) :
    Calls Try.prog 12 #[.agg #[.int .i64 o, .int .i64 n, .int .i64 x, .slice A d.length c]] w fun e w' => ∃ A' c', e = .returned (.tuple #[.slice A' (putP o n x d).1.length c', .int .i64 (putP o n x d).2]) ∧ (putP o n x d).1.length ≤ c' ∧ (∀ x', Below w'.heap.size w' x' → Kd.C (Kd.int .u8) x' A' (putP o n x d).1.length (putP o n x d).1) ∧ Below w.heap.size w w' := by
  refine (xput_any o n x A c d hC hc hb).mono ?_
  rintro e w1 ⟨v, rfl, hr, b⟩
  obtain ⟨A', c', rfl⟩ := Kd.R_slice hr
  exact ⟨A', c', rfl, (Kd.R_reads' hr).2.1, stable_R hr, b⟩
theorem get_byte (l : List Int) (hb : ∀ x ∈ l, 0 ≤ x ∧ x ≤ 255) : ∀ y ∈ (getP l).1.d, 0 ≤ y ∧ y ≤ 255 := by
  unfold getP
  split
  · intro y hy; simp [zeroC] at hy
  · split
    · intro y hy; simp [zeroC] at hy
    · rename_i h1 h2
      split
      · intro y hy
        exact own_byte hb (Classical.byContradiction h2) y (List.mem_of_mem_drop (List.mem_of_mem_take hy))
      · intro y hy; simp [zeroC] at hy
set_option maxHeartbeats 16000000 in
set_option maxRecDepth 100000 in
theorem gets_walk {w : World} (A : Option Addr) (c : Nat) (l : List Int) (hC : Kd.C (Kd.int .u8) w A l.length l) (hc : l.length ≤ c) (hb : ∀ y ∈ l, 0 ≤ y ∧ y ≤ 255) :
    Calls Try.prog 4 #[.slice A l.length c] w fun e w' => e = .returned (.bool true) ∧ Below w.heap.size w w' := by
  have HC := Aside0.mk hC
  have HBY := Aside0.mk hb
  clear hC hb
  obtain ⟨ln, hln⟩ : ∃ ln, ln = l.length := ⟨_, rfl⟩
  rw [← hln] at hc
  by_cases h400 : ln > 400
  · rw [← hln]
    clear hln
    go_enter Try.func4, Try.ntmps4
    go_wp2_with fail
    refine awake_any.mono ?_
    rintro e w1 ⟨rfl, b⟩
    have HB := Aside0.mk b
    clear b
    go_wp2_with fail
    go_ret
    exact ⟨rfl, HB.out⟩
  · rw [← hln]
    have HLN := Aside0.mk hln
    clear hln
    go_enter Try.func4, Try.ntmps4
    go_wp2_with fail
    have hr' : l.length ≤ 200000 := by have := HLN.out; omega
    obtain ⟨go, hgo⟩ : ∃ z, z = (getP l).1.o := ⟨_, rfl⟩
    obtain ⟨gn, hgn⟩ : ∃ z, z = (getP l).1.n := ⟨_, rfl⟩
    obtain ⟨gx, hgx⟩ : ∃ z, z = (getP l).1.x := ⟨_, rfl⟩
    obtain ⟨gd, hgd⟩ : ∃ z, z = (getP l).1.d := ⟨_, rfl⟩
    obtain ⟨r, hr⟩ : ∃ z, z = (getP l).2 := ⟨_, rfl⟩
    have hgb : ∀ y ∈ gd, 0 ≤ y ∧ y ≤ 255 := by rw [hgd]; exact get_byte l HBY.out
    have HGB := Aside0.mk hgb
    have HPG := Aside0.mk (show r = 0 → putP go gn gx gd = (l, 0) from fun h => by rw [hgo, hgn, hgx, hgd]; exact put_get l HBY.out (by rw [← hr]; exact h))
    have h1 := get_any A c l HC.out HBY.out (by rw [← HLN.out]; exact hc) hr'
    have h2 := fun {x : World} (hx : Below w.heap.size w x) => xget_any A c l (Kd.C_below HC.out hx) HBY.out (by rw [← HLN.out]; exact hc) hr'
    rw [← hgo, ← hgn, ← hgx, ← hgd, ← hr, ← HLN.out] at h1
    simp only [← hgo, ← hgn, ← hgx, ← hgd, ← hr, ← HLN.out] at h2
    have H2 := Aside0.mk @h2
    clear h2 hgo hgn hgx hgd hr hgb hr'
    obtain ⟨dn, hdn⟩ : ∃ dn, dn = gd.length := ⟨_, rfl⟩
    have HDN := Aside0.mk hdn
    refine h1.mono ?_
    clear h1
    rintro e w1 ⟨A1, c1, rfl, hc1, hC1, b1⟩
    rw [← hdn] at hc1 hC1
    rw [← hdn]
    clear hdn
    have HC1 := Aside0.mk hC1
    have HB1 := Aside0.mk b1
    clear b1 hC1
    go_wp2_with fail
    obtain ⟨w2, hw2⟩ : ∃ w2, w2 = (w1.alloc (.cells #[.int .i64 go, .int .i64 gn, .int .i64 gx, .slice A1 dn c1] 24)) := ⟨_, rfl⟩
    have hx2 : w2.heap[w1.heap.size]? = some (.cells #[.int .i64 go, .int .i64 gn, .int .i64 gx, .slice A1 dn c1] 24 (0, 0)) := by rw [hw2]; exact heap_alloc_new w1 _
    have b2 : Below w1.heap.size w1 w2 := by rw [hw2]; exact (Below.refl _ _).alloc (Nat.le_refl _) _
    have hs2 : w1.heap.size < w2.heap.size := by rw [hw2]; simp
    rw [← hw2]
    have HB2 := Aside0.mk (HB1.out.trans (b2.mono HB1.out.size))
    have HC2 := Aside0.mk (show ∀ x, Below w2.heap.size w2 x → Kd.C (Kd.int .u8) x A1 dn gd from fun x hx => HC1.out x (b2.trans (hx.mono b2.size)))
    have HX2 := Aside0.mk (show ∀ x, Below w2.heap.size w2 x → x.heap[w1.heap.size]? = some (.cells #[.int .i64 go, .int .i64 gn, .int .i64 gx, .slice A1 dn c1] 24 (0, 0)) from fun x hx => (hx.block _ hs2).trans hx2)
    clear hw2 hx2 b2 hs2 HB1 HC1
    refine (H2.out HB2.out).mono ?_
    rintro e w3 ⟨A3, c3, rfl, hc3, hC3, b3⟩
    rw [← HDN.out] at hc3 hC3
    rw [← HDN.out]
    have HC3 := Aside0.mk hC3
    have HB3 := Aside0.mk b3
    clear b3 hC3 H2
    have hax : ∀ o, (w3.alloc o).heap[w1.heap.size]? = some (.cells #[.int .i64 go, .int .i64 gn, .int .i64 gx, .slice A1 dn c1] 24 (0, 0)) := fun o => HX2.out _ (HB3.out.alloc HB3.out.size _)
    have ha0 : ∀ o, (w3.alloc o).cell? ⟨w1.heap.size, 0, none⟩ = some (.int .i64 go) := fun o => (cells4 (hax o)).1
    have ha1 : ∀ o, (w3.alloc o).cell? ⟨w1.heap.size, 1, none⟩ = some (.int .i64 gn) := fun o => (cells4 (hax o)).2.1
    have ha2 : ∀ o, (w3.alloc o).cell? ⟨w1.heap.size, 2, none⟩ = some (.int .i64 gx) := fun o => (cells4 (hax o)).2.2.1
    have ha3 : ∀ o, (w3.alloc o).cell? ⟨w1.heap.size, 3, none⟩ = some (.slice A1 dn c1) := fun o => (cells4 (hax o)).2.2.2
    clear hax
    go_wp2_with fail
    clear ha0 ha1 ha2 ha3
    obtain ⟨w4, hw4⟩ : ∃ w4, w4 = (w3.alloc (.cells #[.int .i64 go, .int .i64 gn, .int .i64 gx, .slice A3 dn c3] 24)) := ⟨_, rfl⟩
    have hx4 : w4.heap[w3.heap.size]? = some (.cells #[.int .i64 go, .int .i64 gn, .int .i64 gx, .slice A3 dn c3] 24 (0, 0)) := by rw [hw4]; exact heap_alloc_new w3 _
    have b4 : Below w3.heap.size w3 w4 := by rw [hw4]; exact (Below.refl _ _).alloc (Nat.le_refl _) _
    have hs4 : w3.heap.size < w4.heap.size := by rw [hw4]; simp
    rw [← hw4]
    have HB4 := Aside0.mk (HB3.out.trans (b4.mono HB3.out.size))
    have HC4 := Aside0.mk (show ∀ x, Below w4.heap.size w4 x → Kd.C (Kd.int .u8) x A3 dn gd from fun x hx => HC3.out x (b4.trans (hx.mono b4.size)))
    have HX4 := Aside0.mk (show ∀ x, Below w4.heap.size w4 x → x.heap[w3.heap.size]? = some (.cells #[.int .i64 go, .int .i64 gn, .int .i64 gx, .slice A3 dn c3] 24 (0, 0)) from fun x hx => (hx.block _ hs4).trans hx4)
    clear hw4 hx4 b4 hs4 HB3 HC3
    obtain ⟨P, hP⟩ : ∃ P, P = putP go gn gx gd := ⟨_, rfl⟩
    have h5 := put_anyC go gn gx A1 c1 gd (w := w4) (by rw [← HDN.out]; exact HC2.out _ HB4.out) (by rw [← HDN.out]; exact hc1) HGB.out
    rw [← hP, ← HDN.out] at h5
    have HPG2 := Aside0.mk (show r = 0 → P = (l, 0) from fun h => by rw [hP]; exact HPG.out h)
    obtain ⟨pl, hpl⟩ : ∃ pl, pl = P.1.length := ⟨_, rfl⟩
    obtain ⟨pr, hpr⟩ : ∃ pr, pr = P.2 := ⟨_, rfl⟩
    refine h5.mono ?_
    clear h5 HPG
    rintro e w5 ⟨A5, c5, rfl, hc5, hC5, b5⟩
    rw [← hpl, ← hpr]
    rw [← hpl] at hc5 hC5
    have HPL := Aside0.mk hpl
    have HPR := Aside0.mk hpr
    have HC5 := Aside0.mk hC5
    have HB5 := Aside0.mk b5
    clear hP hpl hpr hC5 b5
    have hb25 := HB4.out.trans (HB5.out.mono HB4.out.size)
    obtain ⟨hy0, hy1, hy2, hy3⟩ := cells4 (HX2.out w5 hb25)
    obtain ⟨hz0, hz1, hz2, hz3⟩ := cells4 (HX4.out w5 HB5.out)
    have HB25 := Aside0.mk (HB2.out.trans (hb25.mono HB2.out.size))
    have hsame := same_any go gn gx go gn gx A1 A3 c1 c3 gd gd (w := w5) (by rw [← HDN.out]; exact HC2.out _ hb25) (by rw [← HDN.out]; exact hc1) (by rw [← HDN.out]; exact HC4.out _ HB5.out) (by rw [← HDN.out]; exact hc3) ⟨rfl, rfl, rfl, rfl⟩
    rw [← HDN.out] at hsame
    have HS := Aside0.mk hsame
    clear hb25 hsame
    go_wp2_with fail
    clear hy0 hy1 hy2 hy3 hz0 hz1 hz2 hz3
    refine HS.out.mono ?_
    rintro e w6 ⟨rfl, b6⟩
    have HB6 := Aside0.mk (HB25.out.trans (b6.mono HB25.out.size))
    obtain ⟨T, hT⟩ : ∃ T, T = strOfNums P.1 := ⟨_, rfl⟩
    obtain ⟨U, hU⟩ : ∃ U, U = strOfNums l := ⟨_, rfl⟩
    have hcv1 : (convert 22 9 (.slice A5 pl c5)).run Try.prog w6 = .ok (.string T) w6 := by rw [hT]; exact strC (HC5.out _ b6)
    have hcv2 : (convert 22 9 (.slice A ln c)).run Try.prog w6 = .ok (.string U) w6 := by
      rw [hU]
      have := Kd.C_below HC.out HB6.out
      rw [← HLN.out] at this
      exact strC this
    have HTU := Aside0.mk (show r = 0 → T = U from fun h => by rw [hT, hU, HPG2.out h])
    clear b6 hT hU HS
    by_cases h0 : r = 0
    · subst h0
      obtain rfl := HTU.out rfl
      have h2 : pr = 0 := by rw [HPR.out, HPG2.out rfl]
      subst h2
      go_wp2_with fail
      refine awake_any.mono ?_
      rintro e w7 ⟨rfl, b7⟩
      have HB7 := Aside0.mk (HB6.out.trans (b7.mono HB6.out.size))
      clear b7
      go_wp2_with fail
      go_ret
      exact ⟨rfl, HB7.out⟩
    · have h1 : (r == 0) = false := by simpa using h0
      go_wp2_with fail
      refine awake_any.mono ?_
      rintro e w7 ⟨rfl, b7⟩
      have HB7 := Aside0.mk (HB6.out.trans (b7.mono HB6.out.size))
      clear b7
      go_wp2_with fail
      go_ret
      exact ⟨rfl, HB7.out⟩
theorem puts_code (o n x : Int) (d : List Int) : (cellOk o n x d = true ∧ (putP o n x d).2 = 0) ∨ (¬ cellOk o n x d = true ∧ (putP o n x d).2 = 1) := by
  by_cases h : cellOk o n x d = true
  · exact Or.inl ⟨h, by rw [put_body h]⟩
  · exact Or.inr ⟨h, by unfold putP; rw [if_neg h]⟩
theorem puts_len (o n x : Int) (d : List Int) : (putP o n x d).1.length ≤ 200000 := by
  unfold putP
  split
  · rename_i h
    rw [seal_len, bodyC_len _ _ _ _ (okD h).2.2.2.2.2.2.2]
    decide
  · exact Nat.zero_le _
set_option maxHeartbeats 16000000 in
set_option maxRecDepth 100000 in
theorem puts_walk {w : World} (o n x : Int) (A : Option Addr) (c : Nat) (d : List Int) (hC : Kd.C (Kd.int .u8) w A d.length d) (hc : d.length ≤ c) (hb : ∀ y ∈ d, 0 ≤ y ∧ y ≤ 255) :
    Calls Try.prog 3 #[.agg #[.int .i64 o, .int .i64 n, .int .i64 x, .slice A d.length c]] w fun e w' => e = .returned (.bool true) ∧ Below w.heap.size w w' := by
  have HC := Aside0.mk hC
  have HBY := Aside0.mk hb
  clear hC hb
  obtain ⟨ln, hln⟩ : ∃ ln, ln = d.length := ⟨_, rfl⟩
  rw [← hln] at hc
  rw [← hln]
  have HLN := Aside0.mk hln
  clear hln
  by_cases h400 : ln > 400
  · go_enter Try.func3, Try.ntmps3
    go_wp2_with fail
    refine awake_any.mono ?_
    rintro e w1 ⟨rfl, b⟩
    have HB := Aside0.mk (((Below.refl w.heap.size w).alloc (Nat.le_refl _) _).trans (b.mono (by simp)))
    clear b
    go_wp2_with fail
    go_ret
    exact ⟨rfl, HB.out⟩
  · go_enter Try.func3, Try.ntmps3
    go_wp2_with fail
    obtain ⟨w0, hw0⟩ : ∃ w0, w0 = (w.alloc (.cells #[.int .i64 o, .int .i64 n, .int .i64 x, .slice A ln c] 24)) := ⟨_, rfl⟩
    have hx0 : w0.heap[w.heap.size]? = some (.cells #[.int .i64 o, .int .i64 n, .int .i64 x, .slice A ln c] 24 (0, 0)) := by rw [hw0]; exact heap_alloc_new w _
    have b0 : Below w.heap.size w w0 := by rw [hw0]; exact (Below.refl _ _).alloc (Nat.le_refl _) _
    have hs0 : w.heap.size < w0.heap.size := by rw [hw0]; simp
    rw [← hw0]
    have HB0 := Aside0.mk b0
    have HX0 := Aside0.mk (show ∀ x', Below w0.heap.size w0 x' → x'.heap[w.heap.size]? = some (.cells #[.int .i64 o, .int .i64 n, .int .i64 x, .slice A ln c] 24 (0, 0)) from fun x' hx => (hx.block _ hs0).trans hx0)
    clear hw0 hx0 b0 hs0
    obtain ⟨P, hP⟩ : ∃ P, P = putP o n x d := ⟨_, rfl⟩
    have h1 : ∀ x', Below w0.heap.size w0 x' → Calls Try.prog 11 #[.agg #[.int .i64 o, .int .i64 n, .int .i64 x, .slice A d.length c]] x' fun e w' => ∃ A' c', e = .returned (.tuple #[.slice A' (putP o n x d).1.length c', .int .i64 (putP o n x d).2]) ∧ (putP o n x d).1.length ≤ c' ∧ (∀ y, Below w'.heap.size w' y → Kd.C (Kd.int .u8) y A' (putP o n x d).1.length (putP o n x d).1) ∧ Below x'.heap.size x' w' := fun x' hx => put_anyC o n x A c d (Kd.C_below HC.out (HB0.out.trans (hx.mono HB0.out.size))) (by rw [← HLN.out]; exact hc) HBY.out
    have h2 : ∀ x', Below w0.heap.size w0 x' → Calls Try.prog 12 #[.agg #[.int .i64 o, .int .i64 n, .int .i64 x, .slice A d.length c]] x' fun e w' => ∃ A' c', e = .returned (.tuple #[.slice A' (putP o n x d).1.length c', .int .i64 (putP o n x d).2]) ∧ (putP o n x d).1.length ≤ c' ∧ (∀ y, Below w'.heap.size w' y → Kd.C (Kd.int .u8) y A' (putP o n x d).1.length (putP o n x d).1) ∧ Below x'.heap.size x' w' := fun x' hx => xput_anyC o n x A c d (Kd.C_below HC.out (HB0.out.trans (hx.mono HB0.out.size))) (by rw [← HLN.out]; exact hc) HBY.out
    obtain ⟨pl, hpl⟩ : ∃ pl, pl = P.1.length := ⟨_, rfl⟩
    obtain ⟨pr, hpr⟩ : ∃ pr, pr = P.2 := ⟨_, rfl⟩
    rw [← hP, ← hpl, ← hpr, ← HLN.out] at h1 h2
    have HP1 := Aside0.mk h1
    have HP2 := Aside0.mk h2
    have HPL := Aside0.mk hpl
    have HPB := Aside0.mk (show ∀ y ∈ P.1, 0 ≤ y ∧ y ≤ 255 from put_byte HBY.out hP)
    have HPN := Aside0.mk (show P.1.length ≤ 200000 by rw [hP]; exact puts_len o n x d)
    have HPR := Aside0.mk (show (pr = 0 ∧ getP P.1 = (⟨o, n, x, d⟩, 0)) ∨ pr = 1 by
      rcases puts_code o n x d with ⟨h, h'⟩ | ⟨_, h'⟩
      · exact Or.inl ⟨by rw [hpr, hP, h'], by rw [hP]; exact get_put o n x d h⟩
      · exact Or.inr (by rw [hpr, hP, h']))
    clear h1 h2 hpl hpr hP
    refine (HP1.out w0 (Below.refl _ _)).mono ?_
    clear HP1
    rintro e w1 ⟨A1, c1, rfl, hc1, hC1, b1⟩
    have HC1 := Aside0.mk hC1
    have HB1 := Aside0.mk b1
    clear hC1 b1
    obtain ⟨hy0, hy1, hy2, hy3⟩ := cells4 (HX0.out w1 HB1.out)
    go_wp2_with fail
    clear hy0 hy1 hy2 hy3
    refine (HP2.out w1 HB1.out).mono ?_
    clear HP2
    rintro e w2 ⟨A2, c2, rfl, hc2, hC2, b2⟩
    have HC2 := Aside0.mk hC2
    have HB2 := Aside0.mk (HB1.out.trans (b2.mono HB1.out.size))
    have HD1 := Aside0.mk (HC1.out w2 b2)
    clear hC2 b2 HC1
    go_wp2_with fail
    have hg := get_any A1 c1 P.1 (w := w2) (by rw [← HPL.out]; exact HD1.out) HPB.out (by rw [← HPL.out]; exact hc1) HPN.out
    rcases HPR.out with ⟨h0, hgg⟩ | h0
    · subst h0
      rw [hgg, ← HPL.out] at hg
      simp only [← HLN.out] at hg
      refine hg.mono ?_
      clear hg hgg HPR
      rintro e w3 ⟨A3, c3, rfl, hc3, hC3, b3⟩
      have HC3 := Aside0.mk hC3
      have HB3 := Aside0.mk b3
      clear hC3 b3
      have hw4 : ∀ ob, Below w3.heap.size w3 (w3.alloc ob) := fun ob => (Below.refl _ _).alloc (Nat.le_refl _) _
      obtain ⟨T, hT⟩ : ∃ T, T = strOfNums P.1 := ⟨_, rfl⟩
      have hcv1 : ∀ ob, (convert 22 9 (.slice A1 pl c1)).run Try.prog (w3.alloc ob) = .ok (.string T) (w3.alloc ob) := fun ob => by rw [hT]; exact strC (Kd.C_below HD1.out (HB3.out.trans ((hw4 ob).mono HB3.out.size)))
      have hcv2 : ∀ ob, (convert 22 9 (.slice A2 pl c2)).run Try.prog (w3.alloc ob) = .ok (.string T) (w3.alloc ob) := fun ob => by rw [hT]; exact strC (HC2.out _ (HB3.out.trans ((hw4 ob).mono HB3.out.size)))
      have hb03 : ∀ ob, Below w0.heap.size w0 (w3.alloc ob) := fun ob => HB2.out.trans ((HB3.out.trans ((hw4 ob).mono HB3.out.size)).mono HB2.out.size)
      have HB03 := Aside0.mk hb03
      have hy0 : ∀ ob, (w3.alloc ob).cell? ⟨w.heap.size, 0, none⟩ = some (.int .i64 o) := fun ob => (cells4 (HX0.out _ (hb03 ob))).1
      have hy1 : ∀ ob, (w3.alloc ob).cell? ⟨w.heap.size, 1, none⟩ = some (.int .i64 n) := fun ob => (cells4 (HX0.out _ (hb03 ob))).2.1
      have hy2 : ∀ ob, (w3.alloc ob).cell? ⟨w.heap.size, 2, none⟩ = some (.int .i64 x) := fun ob => (cells4 (HX0.out _ (hb03 ob))).2.2.1
      have hy3 : ∀ ob, (w3.alloc ob).cell? ⟨w.heap.size, 3, none⟩ = some (.slice A ln c) := fun ob => (cells4 (HX0.out _ (hb03 ob))).2.2.2
      clear hT hw4 hb03
      go_wp2_with fail
      clear hy0 hy1 hy2 hy3 hcv1 hcv2
      have hal : Below w3.heap.size w3 (w3.alloc (.cells #[.int .i64 o, .int .i64 n, .int .i64 x, .slice A3 ln c3] 24)) := (Below.refl _ _).alloc (Nat.le_refl _) _
      have hsm := same_any o n x o n x A A3 c c3 d d (w := w3.alloc (.cells #[.int .i64 o, .int .i64 n, .int .i64 x, .slice A3 ln c3] 24)) (Kd.C_below HC.out (HB0.out.trans ((HB03.out _).mono HB0.out.size))) (by rw [← HLN.out]; exact hc) (by rw [← HLN.out]; exact HC3.out _ hal) (by rw [← HLN.out]; exact hc3) ⟨rfl, rfl, rfl, rfl⟩
      rw [← HLN.out] at hsm
      refine hsm.mono ?_
      clear hsm hal
      rintro e w5 ⟨rfl, b5⟩
      have HB5 := Aside0.mk (HB0.out.trans (((HB03.out _).trans (b5.mono (HB03.out _).size)).mono HB0.out.size))
      clear b5
      go_wp2_with fail
      refine awake_any.mono ?_
      rintro e w6 ⟨rfl, b6⟩
      have HB6 := Aside0.mk (HB5.out.trans (b6.mono HB5.out.size))
      clear b6
      go_wp2_with fail
      go_ret
      exact ⟨rfl, HB6.out⟩
    · subst h0
      obtain ⟨G, hG⟩ : ∃ G, G = getP P.1 := ⟨_, rfl⟩
      rw [← hG, ← HPL.out] at hg
      obtain ⟨go, hgo⟩ : ∃ z, z = G.1.o := ⟨_, rfl⟩
      obtain ⟨gn, hgn⟩ : ∃ z, z = G.1.n := ⟨_, rfl⟩
      obtain ⟨gx, hgx⟩ : ∃ z, z = G.1.x := ⟨_, rfl⟩
      obtain ⟨gd, hgd⟩ : ∃ z, z = G.1.d.length := ⟨_, rfl⟩
      obtain ⟨gr, hgr⟩ : ∃ z, z = G.2 := ⟨_, rfl⟩
      rw [← hgo, ← hgn, ← hgx, ← hgd, ← hgr] at hg
      clear hG hgo hgn hgx hgd hgr
      refine hg.mono ?_
      clear hg HPR
      rintro e w3 ⟨A3, c3, rfl, -, -, b3⟩
      have HB3 := Aside0.mk b3
      clear b3
      have hw4 : ∀ ob, Below w3.heap.size w3 (w3.alloc ob) := fun ob => (Below.refl _ _).alloc (Nat.le_refl _) _
      obtain ⟨T, hT⟩ : ∃ T, T = strOfNums P.1 := ⟨_, rfl⟩
      have hcv1 : ∀ ob, (convert 22 9 (.slice A1 pl c1)).run Try.prog (w3.alloc ob) = .ok (.string T) (w3.alloc ob) := fun ob => by rw [hT]; exact strC (Kd.C_below HD1.out (HB3.out.trans ((hw4 ob).mono HB3.out.size)))
      have hcv2 : ∀ ob, (convert 22 9 (.slice A2 pl c2)).run Try.prog (w3.alloc ob) = .ok (.string T) (w3.alloc ob) := fun ob => by rw [hT]; exact strC (HC2.out _ (HB3.out.trans ((hw4 ob).mono HB3.out.size)))
      have hb03 : ∀ ob, Below w0.heap.size w0 (w3.alloc ob) := fun ob => HB2.out.trans ((HB3.out.trans ((hw4 ob).mono HB3.out.size)).mono HB2.out.size)
      have HB03 := Aside0.mk hb03
      have hy0 : ∀ ob, (w3.alloc ob).cell? ⟨w.heap.size, 0, none⟩ = some (.int .i64 o) := fun ob => (cells4 (HX0.out _ (hb03 ob))).1
      have hy1 : ∀ ob, (w3.alloc ob).cell? ⟨w.heap.size, 1, none⟩ = some (.int .i64 n) := fun ob => (cells4 (HX0.out _ (hb03 ob))).2.1
      have hy2 : ∀ ob, (w3.alloc ob).cell? ⟨w.heap.size, 2, none⟩ = some (.int .i64 x) := fun ob => (cells4 (HX0.out _ (hb03 ob))).2.2.1
      have hy3 : ∀ ob, (w3.alloc ob).cell? ⟨w.heap.size, 3, none⟩ = some (.slice A ln c) := fun ob => (cells4 (HX0.out _ (hb03 ob))).2.2.2
      clear hT hw4 hb03
      go_wp2_with fail
      refine awake_any.mono ?_
      rintro e w5 ⟨rfl, b5⟩
      have HB5 := Aside0.mk (HB0.out.trans (((HB03.out _).trans (b5.mono (HB03.out _).size)).mono HB0.out.size))
      clear b5
      go_wp2_with fail
      go_ret
      exact ⟨rfl, HB5.out⟩
end Cell
end Go.Proofs.Ytkfbegmfepehiaa
