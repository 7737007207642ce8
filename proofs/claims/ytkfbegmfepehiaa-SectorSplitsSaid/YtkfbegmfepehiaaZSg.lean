import Derived.Test.YtkfbegmfepehiaaZM3
import Derived.Test.YtkfbegmfepehiaaZQs3
import Derived.KernelRfl
import Derived.Lib.SlBytesConst
namespace Go.Proofs.Ytkfbegmfepehiaa
set_option linter.unusedVariables false
set_option linter.unusedSimpArgs false
set_option linter.ambiguousOpen false
open Go.RowKit Go.Proofs.YtkfbegmfepehiaaW.PrintWords Go.Proofs.YtkfbegmfepehiaaW.PrintLast Go.Proofs.YtkfbegmfepehiaaW.PrintMore
namespace Sect
open Go.Num Go.Crc Go.Proofs.Ytkfbegmfepehiaa.Cell
theorem split_ex : splitP 2 3 5 (List.replicate 49 0) = ([⟨2, 3, 5, 1, List.replicate 48 0⟩, ⟨3, 3, 6, 0, [0]⟩], 0) := by kernel_rfl
theorem join_ex0 : PSectorGets.sector_Join.f 5 [⟨2, 3, 5, 1, List.replicate 48 0⟩, ⟨3, 3, 6, 0, [0]⟩] = some (List.replicate 49 0, true) := by kernel_rfl
theorem join_ex : PSectorGets.sector_Join.f 5 [⟨1, 0, 0, 1, [1]⟩] = some ([], false) := by kernel_rfl
theorem ok_ex : secOk 1 0 7 0 [97, 98] = true := by decide
theorem put_ex : (putS 1 0 7 0 [97, 98]).2 = 0 ∧ (putS 1 0 7 0 [97, 98]).1.length = 64 := by
  rw [put_body ok_ex]
  exact ⟨rfl, by rw [seal_len, bodyS_len _ _ _ _ _ (by decide)]⟩
theorem put_ex2 : (putS 0 0 0 0 []).2 = 1 := by decide
theorem get_ex3 : (getS (List.replicate 64 0)).2 = 12 := by kernel_rfl
theorem makeN (n : Nat) (hn : n ≤ 1000000) (l : List Int) (hl : l = List.replicate n 0) (W : World) : (Instr.makeSlice 22 (.int .i64 (n : Int)) (.int .i64 (n : Int))).run Try.prog W = .ok (.slice (some ⟨W.heap.size, 0, none⟩) n n) (W.alloc (.cells (u8s l).toArray 5)) := by
  have := make8 n hn W
  rw [made8] at this
  rw [hl]
  exact this
theorem new8 (w : World) (l : List Int) (hl : l.length ≤ 1000000) (x : World) (hx : Below (w.alloc (.cells (u8s l).toArray 5)).heap.size (w.alloc (.cells (u8s l).toArray 5)) x) : Kd.C (Kd.int .u8) x (some ⟨w.heap.size, 0, none⟩) l.length l := by
  have h : (w.alloc (.cells (u8s l).toArray 5)).heap[w.heap.size]? = some (.cells (l.map (Value.int .u8) ++ []).toArray 5 (0, 0)) := by rw [List.append_nil]; exact heap_alloc_new w _
  exact Kd.C_below (row_at (row_of (base := 0) (ok := fun _ => True) (cap := l.length) h (Nat.zero_le _) trivial (by simp) (by omega))) hx
theorem rowV {k : IntKind} {w : World} {b t : Nat} {l : List Int} (hb : w.heap[b]? = some (.cells (l.map (Value.int k)).toArray t (0, 0))) (hl : l.length ≤ 1000000) : Kd.C (Kd.int k) w (some ⟨b, 0, none⟩) l.length l := by
  refine Kd.C_of_reads (enc := fun x => Value.int k x) (d := (0:Int)) (h1 := fun _ => rfl) ⟨rfl, by omega, fun _ => ⟨_, rfl, fun j hj => ?_⟩⟩
  have hadd : (⟨b, 0, none⟩ : Addr).add j = ⟨b, j, none⟩ := by unfold Addr.add; split <;> simp_all
  rw [hadd, cell_blk hb, List.getElem?_toArray, List.getElem?_map, List.getD_eq_getElem?_getD, List.getElem?_eq_getElem hj]
  rfl
theorem rowS1 {w : World} {b t : Nat} {x : Se} {A : Option Addr} {c : Nat} (hb : w.heap[b]? = some (.cells #[.int .i64 x.f0, .int .i64 x.f1, .int .i64 x.f2, .int .i64 x.f3, .slice A x.f4.length c] t (0, 0))) (hl : x.f4.length ≤ c) (hC : Kd.C (Kd.int .u8) w A x.f4.length x.f4) : Kd.C PSectorGets.k44 w (some ⟨b, 0, none⟩) 1 [x] :=
  ⟨rfl, by decide, fun _ => ⟨_, rfl, fun j p hj => by
    obtain ⟨rfl, rfl⟩ : j = 0 ∧ x = p := by
      cases j with
      | zero => exact ⟨rfl, by simpa using hj⟩
      | succ j => simp at hj
    refine ⟨_, rfl, PSectorGets.k44_mk w x hl hC, fun i u hu => ?_⟩
    have hadd : (⟨b, 0, none⟩ : Addr).add (0 * PSectorGets.k44.sz + i) = ⟨b, i, none⟩ := by unfold Addr.add; split <;> simp_all
    rw [hadd, cell_blk hb, List.getElem?_toArray]
    exact hu⟩⟩
theorem byte0 (n : Nat) : ∀ x ∈ List.replicate n (0 : Int), 0 ≤ x ∧ x ≤ 255 := fun x hx => by rw [(List.mem_replicate.1 hx).2]; decide
theorem stable_R {w : World} {b : Nat} {ok : Nat → Prop} {A : Option Addr} {c t : Nat} {l : List Int} (h : Kd.R (Kd.int .u8) t w b ok (.slice A l.length c) l) : ∀ x, Below w.heap.size w x → Kd.C (Kd.int .u8) x A l.length l := fun x hx => by
  obtain ⟨A', c', e, hc⟩ := Kd.R_reads h
  cases e
  exact Kd.C_below hc.2 hx
theorem aw_split (w : World) (z : List Int) (hz : z = List.replicate 49 0) : Calls Try.prog 28 #[.agg #[.int .i64 2, .int .i64 3, .int .i64 5, .int .i64 0, .slice none 0 0], .slice (some ⟨w.heap.size, 0, none⟩) 49 49] (w.alloc (.cells (u8s z).toArray 5)) fun e w' => ∃ A c, e = .returned (.tuple #[.slice A 2 c, .int .i64 0]) ∧ 2 ≤ c ∧ (∀ x, Below w'.heap.size w' x → Kd.C PSectorGets.k44 x A 2 [⟨2, 3, 5, 1, List.replicate 48 0⟩, ⟨3, 3, 6, 0, [0]⟩]) ∧ Below w.heap.size w w' := by
  have hzl : z.length = 49 := by rw [hz]; exact List.length_replicate
  have hC := split_any 2 3 5 0 none 0 0 (some ⟨w.heap.size, 0, none⟩) 49 z (new8 w z (by omega) _ (Below.refl _ _)) (by omega) (by omega) (by rw [hz]; exact byte0 49)
  rw [show splitP 2 3 5 z = ([⟨2, 3, 5, 1, List.replicate 48 0⟩, ⟨3, 3, 6, 0, [0]⟩], 0) by rw [hz]; exact split_ex, hzl] at hC
  refine hC.mono ?_
  rintro e w1 ⟨A1, c1, rfl, hc1, hrow1, b1⟩
  exact ⟨A1, c1, rfl, hc1, hrow1, ((Below.refl _ _).alloc (Nat.le_refl _) _).trans (b1.mono (by simp))⟩
theorem aw_join (w : World) (A : Option Addr) (c : Nat) (hC : Kd.C PSectorGets.k44 w A 2 [⟨2, 3, 5, 1, List.replicate 48 0⟩, ⟨3, 3, 6, 0, [0]⟩]) (hc : 2 ≤ c) : Calls Try.prog 30 #[.slice A 2 c] w fun e w' => ∃ A' c', e = .returned (.tuple #[.slice A' 49 c', .bool true]) ∧ Below w.heap.size w w' := by
  refine (PSectorGets.sector_Join.calls 5 A c _ _ _ w hC hc join_ex0).mono ?_
  rintro e w1 ⟨v, rfl, hr, b⟩
  obtain ⟨A', c', rfl⟩ := Kd.R_slice hr
  exact ⟨A', c', by rw [List.length_replicate], b⟩
theorem aw_join2 (w : World) : Calls Try.prog 30 #[.slice (some ⟨w.heap.size + 1, 0, none⟩) 1 1] ((w.alloc (.cells #[.int .u8 1] 5)).alloc (.cells #[.int .i64 1, .int .i64 0, .int .i64 0, .int .i64 1, .slice (some ⟨w.heap.size, 0, none⟩) 1 1] 44)) fun e w' => ∃ A' n' c', e = .returned (.tuple #[.slice A' n' c', .bool false]) ∧ Below w.heap.size w w' := by
  obtain ⟨w3, hw3⟩ : ∃ w3, w3 = (w.alloc (.cells #[.int .u8 1] 5)).alloc (.cells #[.int .i64 1, .int .i64 0, .int .i64 0, .int .i64 1, .slice (some ⟨w.heap.size, 0, none⟩) 1 1] 44) := ⟨_, rfl⟩
  have hb3 : Below w.heap.size w w3 := by rw [hw3]; exact ((Below.refl _ _).alloc (Nat.le_refl _) _).alloc (by simp) _
  have h31 : w3.heap[w.heap.size]? = some (.cells (([1] : List Int).map (Value.int .u8)).toArray 5 (0, 0)) := by
    rw [hw3]
    exact (Below.heap_alloc _ _ _ (by simp)).trans (heap_alloc_new w _)
  have h32 : w3.heap[w.heap.size + 1]? = some (.cells #[.int .i64 1, .int .i64 0, .int .i64 0, .int .i64 1, .slice (some ⟨w.heap.size, 0, none⟩) 1 1] 44 (0, 0)) := by
    rw [hw3]
    have := heap_alloc_new (w.alloc (.cells #[.int .u8 1] 5)) (.cells #[.int .i64 1, .int .i64 0, .int .i64 0, .int .i64 1, .slice (some ⟨w.heap.size, 0, none⟩) 1 1] 44)
    rw [World.size_alloc] at this
    exact this
  rw [← hw3]
  refine (PSectorGets.sector_Join.calls 5 (some ⟨w.heap.size + 1, 0, none⟩) 1 [(⟨1, 0, 0, 1, [1]⟩ : Se)] [] false w3 (rowS1 h32 (by decide) (rowV h31 (by decide))) (by decide) join_ex).mono ?_
  rintro e w4 ⟨v4, rfl, hr4, b4⟩
  obtain ⟨A4, c4, rfl⟩ := Kd.R_slice hr4
  exact ⟨A4, _, c4, rfl, hb3.trans (b4.mono hb3.size)⟩
theorem cell_any {w : World} {b k t : Nat} {cs : Array Value} {fr : Nat × Nat} (h : w.heap[b]? = some (.cells cs t fr)) : w.cell? ⟨b, k, none⟩ = cs[k]? := by
  unfold World.cell?
  rw [h]
  rfl
theorem ab_row (w : World) : Kd.C (Kd.int .u8) (w.alloc (.cells #[.int .u8 97, .int .u8 98] 5 (2, 3))) (some ⟨w.heap.size, 0, none⟩) 2 [97, 98] := by
  have hb : (w.alloc (.cells #[.int .u8 97, .int .u8 98] 5 (2, 3))).heap[w.heap.size]? = some (.cells (([97, 98] : List Int).map (Value.int .u8)).toArray 5 (2, 3)) := heap_alloc_new w _
  refine Kd.C_of_reads (enc := fun x => Value.int .u8 x) (d := (0:Int)) (h1 := fun _ => rfl) ⟨rfl, by decide, fun _ => ⟨_, rfl, fun j hj => ?_⟩⟩
  have hadd : (⟨w.heap.size, 0, none⟩ : Addr).add j = ⟨w.heap.size, j, none⟩ := by unfold Addr.add; split <;> simp_all
  rw [hadd, cell_any hb, List.getElem?_toArray, List.getElem?_map, List.getD_eq_getElem?_getD, List.getElem?_eq_getElem hj]
  rfl
theorem ab_conv (w : World) : (convert 22 22 (.slice (some ⟨w.heap.size, 0, none⟩) 2 2)).run Try.prog (w.alloc (.cells #[.int .u8 97, .int .u8 98] 5)) = .ok (.slice (some ⟨w.heap.size, 0, none⟩) 2 2) (w.alloc (.cells #[.int .u8 97, .int .u8 98] 5 (2, 3))) :=
  Go.Lib.run_convert_bytes_const w 22 5 #[.int .u8 97, .int .u8 98] 2 2 Try.underlying22 Try.underlying5
theorem aw_put (w : World) (V : List Int) (hV : V = (putS 1 0 7 0 [97, 98]).1) : Calls Try.prog 23 #[.agg #[.int .i64 1, .int .i64 0, .int .i64 7, .int .i64 0, .slice (some ⟨w.heap.size, 0, none⟩) 2 2]] (w.alloc (.cells #[.int .u8 97, .int .u8 98] 5 (2, 3))) fun e w' => ∃ A c, e = .returned (.tuple #[.slice A 64 c, .int .i64 0]) ∧ 64 ≤ c ∧ (∀ x, Below w'.heap.size w' x → Kd.C (Kd.int .u8) x A 64 V) ∧ Below w.heap.size w w' := by
  have hC := put_any 1 0 7 0 (some ⟨w.heap.size, 0, none⟩) 2 [97, 98] (ab_row w) (by decide) (by decide)
  obtain ⟨hp2, hp1⟩ := put_ex
  rw [hp2, ← hV] at hC
  rw [← hV] at hp1
  refine hC.mono ?_
  rintro e w1 ⟨v, rfl, hr, b1⟩
  obtain ⟨A, c, rfl⟩ := Kd.R_slice hr
  have hl := (Kd.R_reads' hr).2.1
  have hs := stable_R hr
  rw [hp1] at hs hl
  rw [hp1]
  exact ⟨A, c, rfl, hl, hs, ((Below.refl _ _).alloc (Nat.le_refl _) _).trans (b1.mono (by simp))⟩
theorem aw_get (w : World) (V : List Int) (A : Option Addr) (c : Nat) (hV : V = (putS 1 0 7 0 [97, 98]).1) (hC : Kd.C (Kd.int .u8) w A 64 V) (hc : 64 ≤ c) : Calls Try.prog 25 #[.slice A 64 c] w fun e w' => ∃ A' c', e = .returned (.tuple #[.agg #[.int .i64 1, .int .i64 0, .int .i64 7, .int .i64 0, .slice A' 2 c'], .int .i64 0]) ∧ 2 ≤ c' ∧ (∀ x, Below w'.heap.size w' x → Kd.C (Kd.int .u8) x A' 2 [97, 98]) ∧ Below w.heap.size w w' := by
  obtain ⟨hp2, hp1⟩ := put_ex
  have hg := get_put 1 0 7 0 [97, 98] ok_ex
  rw [← hV] at hp1 hg
  have h0 : (openP V).2 = 0 := by
    have : (getS V).2 = 0 := by rw [hg]
    unfold getS at this
    rw [if_neg (by omega)] at this
    exact Classical.byContradiction (fun e => by rw [if_pos e] at this; exact e this)
  have hb : ∀ y ∈ V, 0 ≤ y ∧ y ≤ 255 := by
    rw [hV, put_body ok_ex]
    exact seal_byte (bodyS_byte _ _ _ _ _ (by decide))
  have h := get_yes A c V (by rw [hp1]; exact hC) hb (by omega) hp1 h0
  rw [hg, hp1] at h
  refine h.mono ?_
  rintro e w1 ⟨v, rfl, hr, b1⟩
  obtain ⟨A', c', rfl⟩ := Kd.R_slice hr
  exact ⟨A', c', rfl, (Kd.R_reads' hr).2.1, stable_R hr, b1⟩
theorem aw_get2 (w : World) (z : List Int) (hz : z = List.replicate 64 0) : Calls Try.prog 25 #[.slice (some ⟨w.heap.size, 0, none⟩) 64 64] (w.alloc (.cells (u8s z).toArray 5)) fun e w' => e = .returned (.tuple #[.agg #[.int .i64 0, .int .i64 0, .int .i64 0, .int .i64 0, .slice none 0 0], .int .i64 12]) ∧ Below w.heap.size w w' := by
  have hzl : z.length = 64 := by rw [hz]; exact List.length_replicate
  have hg : (getS z).2 = 12 := by rw [hz]; exact get_ex3
  have hno : (openP z).2 ≠ 0 := fun e => by
    have h := hg
    unfold getS at h
    rw [if_neg (by omega), if_neg (by simp [e])] at h
    split at h <;> (revert h; simp)
  have h := get_no (some ⟨w.heap.size, 0, none⟩) 64 z (new8 w z (by omega) _ (Below.refl _ _)) (by rw [hz]; exact byte0 64) (by omega) (by omega) (Or.inr hno)
  rw [hg, hzl] at h
  exact h.mono (fun e w' hh => ⟨hh.1, ((Below.refl _ _).alloc (Nat.le_refl _) _).trans (hh.2.mono (by simp))⟩)
theorem aw_get3 (w : World) : Calls Try.prog 25 #[.slice none 0 0] w fun e w' => e = .returned (.tuple #[.agg #[.int .i64 0, .int .i64 0, .int .i64 0, .int .i64 0, .slice none 0 0], .int .i64 11]) ∧ Below w.heap.size w w' :=
  get_no none 0 [] (nilC w) (fun y hy => by cases hy) (Nat.le_refl _) (by decide) (Or.inl (by decide))
theorem aw_put2 (w : World) : Calls Try.prog 23 #[.agg #[.int .i64 0, .int .i64 0, .int .i64 0, .int .i64 0, .slice none 0 0]] w fun e w' => ∃ A n c, e = .returned (.tuple #[.slice A n c, .int .i64 1]) ∧ Below w.heap.size w w' := by
  have h := put_any 0 0 0 0 none 0 [] (nilC w) (Nat.le_refl _) (fun y hy => by cases hy)
  rw [put_ex2] at h
  refine h.mono ?_
  rintro e w1 ⟨v, rfl, hr, b1⟩
  obtain ⟨A', c', rfl⟩ := Kd.R_slice hr
  exact ⟨A', _, c', rfl, b1⟩
theorem aw_same (w : World) (A A' : Option Addr) (c c' : Nat) (hC : Kd.C (Kd.int .u8) w A 2 [97, 98]) (hc : 2 ≤ c) (hC' : Kd.C (Kd.int .u8) w A' 2 [97, 98]) (hc' : 2 ≤ c') : Calls Try.prog 26 #[.agg #[.int .i64 1, .int .i64 0, .int .i64 7, .int .i64 0, .slice A 2 c], .agg #[.int .i64 1, .int .i64 0, .int .i64 7, .int .i64 0, .slice A' 2 c']] w fun e w' => e = .returned (.bool true) ∧ Below w.heap.size w w' :=
  same_any 1 0 7 0 A A' c c' [97, 98] hC hc hC' hc'
set_option maxHeartbeats 16000000 in
set_option maxRecDepth 100000 in
theorem awake_any {w : World} : Calls Try.prog 22 #[] w fun e w' => e = .returned (.bool true) ∧ Below w.heap.size w w' := by
  obtain ⟨z3, hz3⟩ : ∃ l, l = List.replicate 49 (0 : Int) := ⟨_, rfl⟩
  have hm3 := makeN 49 (by omega) z3 hz3
  rw [show ((49 : Nat) : Int) = 49 from rfl] at hm3
  have HZ3 := Aside0.mk hz3
  clear hz3
  obtain ⟨z2, hz2⟩ : ∃ l, l = List.replicate 64 (0 : Int) := ⟨_, rfl⟩
  have hm2 := makeN 64 (by omega) z2 hz2
  rw [show ((64 : Nat) : Int) = 64 from rfl] at hm2
  have HZ2 := Aside0.mk hz2
  clear hz2
  have hcv := ab_conv
  go_enter Try.func22, Try.ntmps22
  go_wp2_with fail
  refine (aw_split w z3 HZ3.out).mono ?_
  rintro e w1 ⟨A1, c1, rfl, hc1, hrow1, b1⟩
  obtain ⟨CE, hCE⟩ : ∃ CE : List Se, CE = [⟨2, 3, 5, 1, List.replicate 48 0⟩, ⟨3, 3, 6, 0, [0]⟩] := ⟨_, rfl⟩
  have HCE := Aside0.mk hCE
  have HROW := Aside0.mk (show ∀ x, Below w1.heap.size w1 x → Kd.C PSectorGets.k44 x A1 2 CE from fun x hx => by rw [hCE]; exact hrow1 x hx)
  have HB1 := Aside0.mk b1
  clear hrow1 b1 hCE
  go_wp2_with fail
  refine (aw_join w1 A1 c1 (by have := HROW.out _ (Below.refl _ _); rw [HCE.out] at this; exact this) hc1).mono ?_
  rintro e w2 ⟨A2, c2, rfl, b2⟩
  have HB2 := Aside0.mk (HB1.out.trans (b2.mono HB1.out.size))
  have HROW2 := Aside0.mk (show ∀ x, Below w2.heap.size w2 x → Kd.C PSectorGets.k44 x A1 2 CE from fun x hx => HROW.out x (b2.trans (hx.mono b2.size)))
  clear b2 HB1 HROW
  go_wp2_with fail
  refine (aw_join2 w2).mono ?_
  rintro e w4 ⟨A4, n4, c4, rfl, b4⟩
  have HB4 := Aside0.mk (HB2.out.trans (b4.mono HB2.out.size))
  have HROW4 := Aside0.mk (show ∀ x, Below w4.heap.size w4 x → Kd.C PSectorGets.k44 x A1 2 CE from fun x hx => HROW2.out x (b4.trans (hx.mono b4.size)))
  clear b4 HB2 HROW2
  go_wp2_with fail
  obtain ⟨V, hV⟩ : ∃ V, V = (putS 1 0 7 0 [97, 98]).1 := ⟨_, rfl⟩
  have HV := Aside0.mk hV
  clear hV
  refine (aw_put w4 V HV.out).mono ?_
  rintro e w6 ⟨A6, c6, rfl, hc6, hr6, b6⟩
  have HB6 := Aside0.mk (HB4.out.trans (b6.mono HB4.out.size))
  have HROW6 := Aside0.mk (show ∀ x, Below w6.heap.size w6 x → Kd.C PSectorGets.k44 x A1 2 CE from fun x hx => HROW4.out x (b6.trans (hx.mono b6.size)))
  have HR6 := Aside0.mk hr6
  clear b6 HB4 HROW4 hr6
  go_wp2_with fail
  refine (aw_get w6 V A6 c6 HV.out (HR6.out _ (Below.refl _ _)) hc6).mono ?_
  clear HR6
  rintro e w7 ⟨A7, c7, rfl, hc7, hr7, b7⟩
  have HB7 := Aside0.mk (HB6.out.trans (b7.mono HB6.out.size))
  have HROW7 := Aside0.mk (show ∀ x, Below w7.heap.size w7 x → Kd.C PSectorGets.k44 x A1 2 CE from fun x hx => HROW6.out x (b7.trans (hx.mono b7.size)))
  have HR7 := Aside0.mk hr7
  clear b7 HB6 HROW6 hr7
  go_wp2_with fail
  obtain ⟨w8, hw8⟩ : ∃ w8, w8 = (w7.alloc (.cells #[.int .i64 1, .int .i64 0, .int .i64 7, .int .i64 0, .slice A7 2 c7] 44)) := ⟨_, rfl⟩
  have h8 : w8.heap[w7.heap.size]? = some (.cells #[.int .i64 1, .int .i64 0, .int .i64 7, .int .i64 0, .slice A7 2 c7] 44 (0, 0)) := by rw [hw8]; exact heap_alloc_new w7 _
  have b8 : Below w7.heap.size w7 w8 := by rw [hw8]; exact (Below.refl _ _).alloc (Nat.le_refl _) _
  have hs8 : w7.heap.size + 1 = w8.heap.size := by rw [hw8]; simp
  rw [← hw8, hs8]
  have HB8 := Aside0.mk (HB7.out.trans (b8.mono HB7.out.size))
  have HROW8 := Aside0.mk (show ∀ x, Below w8.heap.size w8 x → Kd.C PSectorGets.k44 x A1 2 CE from fun x hx => HROW7.out x (b8.trans (hx.mono b8.size)))
  have HR8 := Aside0.mk (show ∀ x, Below w8.heap.size w8 x → Kd.C (Kd.int .u8) x A7 2 [97, 98] from fun x hx => HR7.out x (b8.trans (hx.mono b8.size)))
  have HC8 := Aside0.mk (show ∀ x, Below w8.heap.size w8 x → x.heap[w7.heap.size]? = some (.cells #[.int .i64 1, .int .i64 0, .int .i64 7, .int .i64 0, .slice A7 2 c7] 44 (0, 0)) from fun x hx => (hx.block _ (by omega)).trans h8)
  clear hw8 h8 b8 hs8 HB7 HROW7 HR7
  refine (aw_get2 w8 z2 HZ2.out).mono ?_
  rintro e w9 ⟨rfl, b9⟩
  have HB9 := Aside0.mk (HB8.out.trans (b9.mono HB8.out.size))
  have H89 := Aside0.mk b9
  clear b9 HB8
  go_wp2_with fail
  obtain ⟨wc, hwc⟩ : ∃ wc, wc = (w9.alloc (.cells #[.int .i64 0, .int .i64 0, .int .i64 0, .int .i64 0, .slice none 0 0] 44)) := ⟨_, rfl⟩
  have bc : Below w9.heap.size w9 wc := by rw [hwc]; exact (Below.refl _ _).alloc (Nat.le_refl _) _
  rw [← hwc]
  have HBC := Aside0.mk (HB9.out.trans (bc.mono HB9.out.size))
  have H8C := Aside0.mk (H89.out.trans (bc.mono H89.out.size))
  clear hwc bc HB9 H89
  refine (aw_get3 wc).mono ?_
  rintro e wd ⟨rfl, bd⟩
  have HBD := Aside0.mk (HBC.out.trans (bd.mono HBC.out.size))
  have H8D := Aside0.mk (H8C.out.trans (bd.mono H8C.out.size))
  clear bd HBC H8C
  go_wp2_with fail
  obtain ⟨wf, hwf⟩ : ∃ wf, wf = (wd.alloc (.cells #[.int .i64 0, .int .i64 0, .int .i64 0, .int .i64 0, .slice none 0 0] 44)) := ⟨_, rfl⟩
  have bf : Below wd.heap.size wd wf := by rw [hwf]; exact (Below.refl _ _).alloc (Nat.le_refl _) _
  rw [← hwf]
  have HBF := Aside0.mk (HBD.out.trans (bf.mono HBD.out.size))
  have H8F := Aside0.mk (H8D.out.trans (bf.mono H8D.out.size))
  clear hwf bf HBD H8D
  refine (aw_put2 wf).mono ?_
  rintro e wg ⟨A9, n9, c9, rfl, bg⟩
  have HBG := Aside0.mk (HBF.out.trans (bg.mono HBF.out.size))
  have H8G := Aside0.mk (H8F.out.trans (bg.mono H8F.out.size))
  clear bg HBF H8F
  have hCx := HROW8.out wg H8G.out
  obtain ⟨ad, A30, c30, rfl, hx0, -, -, hx3, -, -⟩ := PSectorGets.at_T44 hCx 0 (by decide) (by decide)
  obtain ⟨ad', A31, c31, e', hy0, -, hy2, hy3, -, -⟩ := PSectorGets.at_T44 hCx 1 (by decide) (by decide)
  cases e'
  rw [HCE.out] at hx0 hx3 hy0 hy2 hy3
  have hx0 : wg.cell? ad = some (.int .i64 2) := hx0
  have hx3 : wg.cell? ⟨ad.block, ad.off + 3, none⟩ = some (.int .i64 1) := hx3
  have hy0 : wg.cell? ⟨ad.block, ad.off + 5, none⟩ = some (.int .i64 3) := hy0
  have hy2 : wg.cell? ⟨ad.block, ad.off + 5 + 2, none⟩ = some (.int .i64 6) := hy2
  have hy3 : wg.cell? ⟨ad.block, ad.off + 5 + 3, none⟩ = some (.int .i64 0) := hy3
  have h8 := HC8.out wg H8G.out
  have hz0 : wg.cell? ⟨w7.heap.size, 0, none⟩ = some (.int .i64 1) := by rw [cell_blk h8]; rfl
  have hz1 : wg.cell? ⟨w7.heap.size, 1, none⟩ = some (.int .i64 0) := by rw [cell_blk h8]; rfl
  have hz2 : wg.cell? ⟨w7.heap.size, 2, none⟩ = some (.int .i64 7) := by rw [cell_blk h8]; rfl
  have hz3 : wg.cell? ⟨w7.heap.size, 3, none⟩ = some (.int .i64 0) := by rw [cell_blk h8]; rfl
  have hz4 : wg.cell? ⟨w7.heap.size, 4, none⟩ = some (.slice A7 2 c7) := by rw [cell_blk h8]; rfl
  have HR7 := HR8.out wg H8G.out
  clear hCx h8
  go_wp2_with fail
  refine (aw_same _ A7 (some ⟨wg.heap.size, 0, none⟩) c7 2 (Kd.C_below HR7 ((Below.refl _ _).alloc (Nat.le_refl _) _)) hc7 (ab_row wg) (Nat.le_refl _)).mono ?_
  rintro e wh ⟨rfl, bh⟩
  have HBH := Aside0.mk (HBG.out.trans ((((Below.refl _ _).alloc (Nat.le_refl _) _).trans (bh.mono (by simp))).mono HBG.out.size))
  clear bh hz0 hz1 hz2 hz3 hz4 HR7 hx0 hx3 hy0 hy2 hy3 HBG
  go_wp2_with fail
  refine (needS_any 48 (by decide)).mono ?_
  rw [show ((needS 48 : Nat) : Int) = 1 from rfl]
  rintro e wi ⟨rfl, bi⟩
  have HBI := Aside0.mk (HBH.out.trans (bi.mono HBH.out.size))
  clear bi
  go_wp2_with fail
  refine (needS_any 0 (by decide)).mono ?_
  rw [show ((needS 0 : Nat) : Int) = 0 from rfl]
  rintro e wj ⟨rfl, bj⟩
  have HBJ := Aside0.mk (HBI.out.trans (bj.mono HBI.out.size))
  clear bj
  go_wp2_with fail
  go_ret
  exact ⟨rfl, HBJ.out⟩
end Sect
end Go.Proofs.Ytkfbegmfepehiaa
