import Derived.Test.YtkfbegmfepehiaaZKw
import Derived.Test.YtkfbegmfepehiaaZWZeros
import Derived.Below
import Derived.Lib.Hide
import Derived.OwnWalk
import Derived.WalkKit
import Derived.KernelRfl
import Derived.RowKit3
import Derived.Deep.LoopGhost
import Derived.Deep.QuietTactic
import Derived.BigQuiet
import Derived.WideLaws
import Derived.Great.BuildSlice
import Derived.Outline
import Derived.Deep.DeepCutAuto
import Derived.WalkSpells
import Derived.RegionTactic
import Derived.BigRegion
import Derived.WalkLawsBesides
import Derived.IntWalk
import Derived.Deep.Slices
import Derived.Lib.AppendZerosOnto
namespace Go.Proofs.Ytkfbegmfepehiaa
set_option linter.unusedVariables false
set_option linter.unusedSimpArgs false
open Go.RowKit Go.Proofs.YtkfbegmfepehiaaW.PrintWords Go.Proofs.YtkfbegmfepehiaaW.PrintLast Go.Proofs.YtkfbegmfepehiaaW.PrintMore
namespace Cell
open Go.Num Go.Crc PCellGets
def u8s (l : List Int) : List Value := l.map (Value.int .u8)
theorem u8s_len (l : List Int) : (u8s l).length = l.length := List.length_map _
structure Only (b : Nat) (w w' : World) : Prop where
  os : w'.os = w.os
  tape : w'.tape = w.tape
  output : w'.output = w.output
  size : w.heap.size ≤ w'.heap.size
  block : ∀ k, k < w.heap.size → k ≠ b → w'.heap[k]? = w.heap[k]?
theorem Only.refl (b : Nat) (w : World) : Only b w w := ⟨rfl, rfl, rfl, Nat.le_refl _, fun _ _ _ => rfl⟩
theorem Only.trans {b : Nat} {x y z : World} (h : Only b x y) (k : Only b y z) : Only b x z :=
  ⟨k.os.trans h.os, k.tape.trans h.tape, k.output.trans h.output, Nat.le_trans h.size k.size, fun q hq hn => (k.block q (Nat.lt_of_lt_of_le hq h.size) hn).trans (h.block q hq hn)⟩
theorem Only.of_below {b : Nat} {x y : World} (h : Below x.heap.size x y) : Only b x y := ⟨h.os, h.tape, h.output, h.size, fun k hk _ => h.block k hk⟩
theorem Only.set (w : World) (b k : Nat) (v : Value) : Only b w (w.setCell ⟨b, k, none⟩ v) :=
  ⟨rfl, rfl, rfl, by simp [World.setCell], fun q _ hn => Below.heap_setCell _ _ _ _ hn⟩
theorem Only.below {b base : Nat} {x y : World} (h : Only b x y) (hb : base ≤ b) (hx : base ≤ x.heap.size) : Below base x y := ⟨h.os, h.tape, h.output, h.size, fun k hk => h.block k (by omega) (by omega)⟩
structure PCx (w : World) (base cb : Nat) (bs : List Int) (g off c : Nat) (all : List Int) (sp : List Value) : Prop where
  cbase : base ≤ cb
  cells : w.heap[cb]? = some (.cells #[.slice (some ⟨g, off, none⟩) bs.length c, .bool false] 84 (0, 0))
  row : w.heap[g]? = some (.cells (u8s all ++ sp).toArray 5 (0, 0))
  at_ : bs = all.drop off ∨ bs = []
  room : bs.length ≤ c
  few : bs.length ≤ 200000
def PC (w : World) (base cb : Nat) (bs : List Int) (bad : Bool) : Prop :=
  if bad then base ≤ cb ∧ bs = [] ∧ w.heap[cb]? = some (.cells #[.slice none 0 0, .bool true] 84 (0, 0)) else ∃ g off c all sp, PCx w base cb bs g off c all sp
theorem PCx.ne {w : World} {base cb g off c : Nat} {bs all : List Int} {sp : List Value} (h : PCx w base cb bs g off c all sp) : g ≠ cb := by
  rintro rfl
  have := h.cells.symm.trans h.row
  simp at this
theorem PCx.C {w : World} {base cb g off c : Nat} {bs all : List Int} {sp : List Value} (h : PCx w base cb bs g off c all sp) : Kd.C (Kd.int .u8) w (some ⟨g, off, none⟩) bs.length bs := by
  have hf := h.few
  refine Kd.C_of_reads (enc := fun x => Value.int .u8 x) (d := (0:Int)) (h1 := fun _ => rfl) ⟨rfl, by omega, fun _ => ⟨_, rfl, fun j hj => ?_⟩⟩
  rcases h.at_ with he | he
  · have hadd : (⟨g, off, none⟩ : Addr).add j = ⟨g, off + j, none⟩ := by unfold Addr.add; split <;> simp_all
    have hja : off + j < all.length := by rw [he, List.length_drop] at hj; omega
    rw [hadd, cell_blk h.row, List.getElem?_toArray, List.getElem?_append_left (by rw [u8s_len]; exact hja)]
    unfold u8s
    rw [List.getElem?_map, List.getD_eq_getElem?_getD, he, List.getElem?_drop, List.getElem?_eq_getElem hja]
    rfl
  · rw [he] at hj; simp at hj
theorem PC.only {w w' : World} {base cb b : Nat} {bs : List Int} {bad : Bool} (h : PC w base cb bs bad) (f : Below w.heap.size w w') : PC w' base cb bs bad := by
  unfold PC at *
  cases bad with
  | true => exact ⟨h.1, h.2.1, (f.block _ (blk_lt h.2.2)).trans h.2.2⟩
  | false =>
    obtain ⟨g, off, c, all, sp, h⟩ := h
    exact ⟨g, off, c, all, sp, h.cbase, (f.block _ (blk_lt h.cells)).trans h.cells, (f.block _ (blk_lt h.row)).trans h.row, h.at_, h.room, h.few⟩
set_option maxRecDepth 100000 in
theorem bad_any {w : World} {base cb : Nat} {bs : List Int} {bad : Bool} (h : PC w base cb bs bad) :
    Calls Try.prog 44 #[.pointer (some ⟨cb, 0, none⟩)] w fun e w' => e = .returned (.bool bad) ∧ w' = w := by
  have c1 : w.cell? ⟨cb, 1, none⟩ = some (.bool bad) := by
    unfold PC at h
    cases bad with
    | true => exact cell_blk h.2.2
    | false => obtain ⟨_, _, _, _, _, h⟩ := h; exact cell_blk h.cells
  clear h
  go_enter Try.func44, Try.ntmps44
  go_wp2_with fail
  go_ret
  exact ⟨rfl, rfl⟩
set_option maxHeartbeats 8000000 in
set_option maxRecDepth 100000 in
theorem fail_any {w : World} {base cb : Nat} {bs : List Int} {bad : Bool} (h : PC w base cb bs bad) :
    Calls Try.prog 64 #[.pointer (some ⟨cb, 0, none⟩)] w fun e w' => (∃ v, e = .returned v) ∧ PC w' base cb [] true ∧ Only cb w w' := by
  obtain ⟨v0, v1, hc, hb, one⟩ : ∃ v0 v1, w.heap[cb]? = some (.cells #[v0, v1] 84 (0, 0)) ∧ base ≤ cb ∧ v0.oneCell' = true := by
    unfold PC at h
    cases bad with
    | true => exact ⟨_, _, h.2.2, h.1, rfl⟩
    | false => obtain ⟨_, _, _, _, _, h⟩ := h; exact ⟨_, _, h.cells, h.cbase, rfl⟩
  have c0 : w.cell? ⟨cb, 0, none⟩ = some v0 := cell_blk hc
  have f0 : w.frozen? ⟨cb, 0, none⟩ = false := frozen_blk hc
  have c1 : w.cell? ⟨cb, 1, none⟩ = some v1 := cell_blk hc
  have f1 : w.frozen? ⟨cb, 1, none⟩ = false := frozen_blk hc
  have HC := Aside0.mk hc
  have HB := Aside0.mk hb
  clear h hc hb
  go_enter Try.func64, Try.ntmps64
  go_wp2_with fail
  go_end0
  refine ⟨⟨_, rfl⟩, ⟨HB.out, rfl, ?_⟩, (Only.set _ _ _ _).trans (Only.set _ _ _ _)⟩
  rw [blk_set (blk_set HC.out 0 _) 1 _]
  rfl
set_option maxHeartbeats 8000000 in
set_option maxRecDepth 100000 in
theorem from_any {w : World} (a : Addr) (c : Nat) (l : List Int) (hC : Kd.C (Kd.int .u8) w (some a) l.length l) (hl : l.length ≤ 200000) :
    Calls Try.prog 41 #[.slice (some a) l.length c] w fun e w' => ∃ cb, e = .returned (.pointer (some ⟨cb, 0, none⟩)) ∧ PC w' w.heap.size cb l false ∧ Below w.heap.size w w' := by
  have HC := Aside0.mk hC
  clear hC
  go_enter Try.func41, Try.ntmps41
  go_wp2_with fail
  refine (clone8 a c l HC.out (by omega)).mono ?_
  rintro e w1 ⟨v, rfl, hr, b1, hv⟩
  obtain ⟨_, ho⟩ := Kd.own_of_R hr
  rcases ho with ⟨hv', _⟩ | ⟨g, cap, cur, rfl, hbase, hb, hn, hmx, hcs, hcur⟩
  · exact absurd hv' hv
  have hrow : w1.heap[g]? = some (.cells (u8s l ++ cur.toList.drop l.length).toArray 5 (0, 0)) := by
    rw [hb]
    have e : u8s l = cur.toList.take l.length := by rw [Nat.mul_one] at hcur; exact hcur.symm
    rw [e, List.take_append_drop]
  have HB1 := Aside0.mk b1
  have HROW := Aside0.mk hrow
  have HN := Aside0.mk hn
  clear hr b1 hv hb hcs hcur hrow hbase
  go_wp2_with fail
  go_ret
  have hx : (w1.alloc (.cells #[.slice (some ⟨g, 0, none⟩) l.length cap, .bool false] 84)).heap[w1.heap.size]? = some (.cells #[.slice (some ⟨g, 0, none⟩) l.length cap, .bool false] 84 (0, 0)) := heap_alloc_new w1 _
  have hb2 : Below w1.heap.size w1 (w1.alloc (.cells #[.slice (some ⟨g, 0, none⟩) l.length cap, .bool false] 84)) := (Below.refl _ _).alloc (Nat.le_refl _) _
  exact ⟨w1.heap.size, rfl, ⟨g, 0, cap, l, _, HB1.out.size, hx, (hb2.block _ (blk_lt HROW.out)).trans HROW.out, .inl rfl, HN.out, hl⟩, HB1.out.trans (hb2.mono HB1.out.size)⟩
def takeOk (bs : List Int) (bad : Bool) (n : Int) : Bool := !bad && (decide (0 ≤ n) && decide (n ≤ bs.length))
set_option maxHeartbeats 8000000 in
set_option maxRecDepth 100000 in
theorem take_no {w : World} {base cb : Nat} {bs : List Int} {bad : Bool} (h : PC w base cb bs bad) (n : Int) (hk : takeOk bs bad n = false) :
    Calls Try.prog 43 #[.pointer (some ⟨cb, 0, none⟩), .int .i64 n] w fun e w' => e = .returned (.slice none 0 0) ∧ PC w' base cb [] true ∧ Only cb w w' := by
  have HP := Aside0.mk h
  cases bad with
  | true =>
    clear h hk
    go_enter Try.func43, Try.ntmps43
    go_wp2_with fail
    refine (bad_any HP.out).mono ?_
    rintro e w1 ⟨rfl, rfl⟩
    go_wp2_with fail
    refine (fail_any HP.out).mono ?_
    rintro e w2 ⟨⟨v, rfl⟩, p, o⟩
    have HP2 := Aside0.mk p
    have HO2 := Aside0.mk o
    clear p o
    go_wp2_with fail
    go_ret
    exact ⟨rfl, HP2.out, HO2.out⟩
  | false =>
    obtain ⟨g, off, c, all, sp, hx⟩ := h
    have c0 : w.cell? ⟨cb, 0, none⟩ = some (.slice (some ⟨g, off, none⟩) bs.length c) := cell_blk hx.cells
    clear hx
    have hk' : n < 0 ∨ (bs.length : Int) < n := by
      unfold takeOk at hk
      simp at hk
      omega
    clear hk
    by_cases hn : n < 0
    · clear hk'
      go_enter Try.func43, Try.ntmps43
      go_wp2_with fail
      refine (bad_any HP.out).mono ?_
      rintro e w1 ⟨rfl, rfl⟩
      go_wp2_with fail
      refine (fail_any HP.out).mono ?_
      rintro e w2 ⟨⟨v, rfl⟩, p, o⟩
      have HP2 := Aside0.mk p
      have HO2 := Aside0.mk o
      clear p o c0
      go_wp2_with fail
      go_ret
      exact ⟨rfl, HP2.out, HO2.out⟩
    · have hgt : (bs.length : Int) < n := by omega
      clear hk'
      go_enter Try.func43, Try.ntmps43
      go_wp2_with fail
      refine (bad_any HP.out).mono ?_
      rintro e w1 ⟨rfl, rfl⟩
      go_wp2_with fail
      refine (fail_any HP.out).mono ?_
      rintro e w2 ⟨⟨v, rfl⟩, p, o⟩
      have HP2 := Aside0.mk p
      have HO2 := Aside0.mk o
      clear p o c0
      go_wp2_with fail
      go_ret
      exact ⟨rfl, HP2.out, HO2.out⟩
theorem copy8 {w : World} {g : Nat} (a : Addr) (n sl sc : Nat) (P : List Int) (hb : w.heap[g]? = some (.cells (u8s (List.replicate n 0)).toArray 5 (0, 0))) (hP : P.length = n) (hn : n ≤ sl) (hs : ∀ j, j < P.length → w.cell? (a.add j) = some (.int .u8 (P.getD j 0))) :
    ∃ w', (Builtin.copy_ #[22, 22] 3 #[.slice (some ⟨g, 0, none⟩) n n, .slice (some a) sl sc]).run Try.prog w = .ok (.int .i64 (n : Int)) w' ∧ w'.heap[g]? = some (.cells (u8s P).toArray 5 (0, 0)) ∧ Only g w w' := by
  have hsz : ∀ j, j < P.length → 0 + j < (u8s (List.replicate n 0)).toArray.size := fun j hj => by rw [List.size_toArray, u8s_len, List.length_replicate]; omega
  have hr := run_copy_cells (P := Try.prog) w 22 22 3 5 g 0 n n a sl sc (u8s P) Try.underlying22 (by kernel_rfl) (by rw [u8s_len, hP]; show n = min sl n; omega) (fun j v hv => ?_) (fun j hj => ?_) (fun j hj => ?_) (fun v hv => ?_)
  · refine ⟨w.setCells g 0 (u8s P), ?_, ?_, ?_⟩
    · rw [u8s_len, hP] at hr
      exact hr
    · obtain ⟨cur', h1, h2, h3⟩ := setCells_row (u8s P) 0 w (u8s (List.replicate n 0)).toArray hb (by rw [List.size_toArray, u8s_len, u8s_len, List.length_replicate]; omega)
      rw [h1]
      have : cur' = (u8s P).toArray := by
        apply Array.ext'
        rw [h3]
        simp only [List.take_zero, List.nil_append, Nat.zero_add]
        rw [List.drop_eq_nil_of_le (by rw [u8s_len, u8s_len, List.length_replicate]; omega), List.append_nil]
      rw [this]
    · obtain ⟨s1, s2, s3, s4⟩ := setCells_same g (u8s P) 0 w
      exact ⟨s1, s2, s3, by rw [s4]; exact Nat.le_refl _, fun k _ hk => setCells_far _ _ _ hk⟩
  · have hjl : j < P.length := by
      rcases Nat.lt_or_ge j P.length with h | h
      · exact h
      · rw [List.getElem?_eq_none (by rw [u8s_len]; exact h)] at hv; cases hv
    have e : v = .int .u8 (P.getD j 0) := by
      unfold u8s at hv
      rw [List.getElem?_map, List.getElem?_eq_getElem hjl] at hv
      simp at hv
      rw [← hv]
      simp [hjl]
    rw [e]
    exact hs j hjl
  · rw [cell_blk hb, Array.getElem?_eq_getElem (hsz j (by rw [u8s_len] at hj; exact hj))]
    rfl
  · exact frozen_blk hb
  · unfold u8s at hv
    obtain ⟨x, _, rfl⟩ := List.mem_map.1 hv
    rfl
set_option maxHeartbeats 8000000 in
set_option maxRecDepth 100000 in
theorem take_yes {w : World} {base cb : Nat} {bs : List Int} (h : PC w base cb bs false) (n : Nat) (hk : n ≤ bs.length) :
    Calls Try.prog 43 #[.pointer (some ⟨cb, 0, none⟩), .int .i64 n] w fun e w' => ∃ v, e = .returned v ∧ Kd.R (Kd.int .u8) 5 w' w.heap.size (fun _ => True) v (bs.take n) ∧ PC w' base cb (bs.drop n) false ∧ Only cb w w' := by
  have HP := Aside0.mk h
  obtain ⟨g, off, c, all, sp, hx⟩ := h
  have c0 : w.cell? ⟨cb, 0, none⟩ = some (.slice (some ⟨g, off, none⟩) bs.length c) := cell_blk hx.cells
  have hfew := hx.few
  have hroom := hx.room
  have hcl : cb < w.heap.size := blk_lt hx.cells
  have HX := Aside0.mk hx
  have hmk : ∀ W : World, (Instr.makeSlice 22 (.int .i64 (n : Int)) (.int .i64 (n : Int))).run Try.prog W = .ok (.slice (some ⟨W.heap.size, 0, none⟩) n n) (W.alloc (.cells (u8s (List.replicate n 0)).toArray 5)) := fun W => by
    have := make8 n (by omega) W
    rw [made8] at this
    exact this
  have hn0 : decide ((n : Int) < 0) = false := decide_eq_false (by omega)
  have hn1 : decide (bs.length < n) = false := decide_eq_false (by omega)
  obtain ⟨W, hW⟩ : ∃ W, W = w.alloc (.cells (u8s (List.replicate n 0)).toArray 5) := ⟨_, rfl⟩
  have hbW : Below w.heap.size w W := by rw [hW]; exact (Below.refl _ _).alloc (Nat.le_refl _) _
  have hnew : W.heap[w.heap.size]? = some (.cells (u8s (List.replicate n 0)).toArray 5 (0, 0)) := by rw [hW]; exact heap_alloc_new w _
  have htl : (bs.take n).length = n := by rw [List.length_take]; omega
  obtain ⟨w2, hcp, hrow2, ho2⟩ := copy8 (w := W) ⟨g, off, none⟩ n bs.length c (bs.take n) hnew htl hk (fun j hj => by
    obtain ⟨ad, e, hcell⟩ := Kd.at_int (Kd.C_below hx.C hbW) (j : Int) (by omega) (by omega)
    cases e
    rw [Int.toNat_natCast] at hcell
    rw [hcell]
    unfold rd
    rw [Int.toNat_natCast, List.getD_eq_getElem?_getD, List.getD_eq_getElem?_getD, List.getElem?_take_of_lt (by omega)])
  have hO : ∀ k, k < w.heap.size → w2.heap[k]? = w.heap[k]? := fun k hk' => (ho2.block k (Nat.lt_of_lt_of_le hk' hbW.size) (by omega)).trans (hbW.block k hk')
  have hB2 : Below w.heap.size w w2 := ⟨ho2.os.trans hbW.os, ho2.tape.trans hbW.tape, ho2.output.trans hbW.output, Nat.le_trans hbW.size ho2.size, hO⟩
  have hcells2 := (hO cb hcl).trans hx.cells
  have d0 : w2.cell? ⟨cb, 0, none⟩ = some (.slice (some ⟨g, off, none⟩) bs.length c) := cell_blk hcells2
  have g0 : w2.frozen? ⟨cb, 0, none⟩ = false := frozen_blk hcells2
  have HC2 := Aside0.mk hcells2
  have HR2 := Aside0.mk ((hO g (blk_lt hx.row)).trans hx.row)
  have HB2 := Aside0.mk hB2
  have HNEW := Aside0.mk hrow2
  have HTL := Aside0.mk htl
  have HNE := Aside0.mk (show w.heap.size ≠ cb by omega)
  rw [hW] at hcp
  clear hx hbW hnew htl hrow2 ho2 hO hB2 hcells2 hW HP
  have fin : ∀ (A' : Addr) (c' : Nat), (A' = ⟨g, off + n, none⟩ ∨ (A' = ⟨g, off, none⟩ ∧ bs.length = n)) → bs.length - n ≤ c' → Kd.R (Kd.int .u8) 5 (w2.setCell ⟨cb, 0, none⟩ (.slice (some A') (bs.length - n) c')) w.heap.size (fun _ => True) (.slice (some ⟨w.heap.size, 0, none⟩) n n) (bs.take n) ∧ PC (w2.setCell ⟨cb, 0, none⟩ (.slice (some A') (bs.length - n) c')) base cb (bs.drop n) false ∧ Only cb w (w2.setCell ⟨cb, 0, none⟩ (.slice (some A') (bs.length - n) c')) := fun A' c' hA hc' => by
    have hs := blk_set HC2.out 0 (.slice (some A') (bs.length - n) c')
    have hne := HX.out.ne
    refine ⟨?_, ?_, (Only.of_below HB2.out).trans (Only.set _ _ _ _)⟩
    · have hr : (w2.setCell ⟨cb, 0, none⟩ (.slice (some A') (bs.length - n) c')).heap[w.heap.size]? = some (.cells ((bs.take n).map (Value.int .u8) ++ []).toArray 5 (0, 0)) := by
        rw [Below.heap_setCell _ _ _ _ HNE.out, List.append_nil]
        exact HNEW.out
      have := row_of (base := w.heap.size) (ok := fun _ => True) hr (Nat.le_refl _) trivial (cap := n) (by rw [HTL.out]; rfl) (by omega)
      rw [HTL.out] at this
      exact this
    · have hdl : (bs.drop n).length = bs.length - n := List.length_drop
      have hat : bs.drop n = all.drop (off + n) ∨ bs.drop n = [] := by
        rcases HX.out.at_ with he | he
        · left; rw [he, List.drop_drop]
        · right; rw [he, List.drop_nil]
      have hrow : (w2.setCell ⟨cb, 0, none⟩ (.slice (some A') (bs.length - n) c')).heap[g]? = some (.cells (u8s all ++ sp).toArray 5 (0, 0)) := by rw [Below.heap_setCell _ _ _ _ hne]; exact HR2.out
      rcases hA with rfl | ⟨rfl, hl⟩
      · exact ⟨g, off + n, c', all, sp, HX.out.cbase, by rw [hs, hdl]; rfl, hrow, hat, by rw [hdl]; exact hc', by rw [hdl]; omega⟩
      · exact ⟨g, off, c', all, sp, HX.out.cbase, by rw [hs, hdl]; rfl, hrow, .inr (List.drop_eq_nil_of_le (by omega)), by rw [hdl]; exact hc', by rw [hdl]; omega⟩
  have HFIN := Aside0.mk fin
  clear fin
  by_cases hcn : c = n
  · have HBN := Aside0.mk (show bs.length = n by omega)
    subst hcn
    go_enter Try.func43, Try.ntmps43
    go_wp2_with fail
    refine (bad_any (w := w) (base := base) (bs := bs) (bad := false) ⟨g, off, c, all, sp, HX.out⟩).mono ?_
    rintro e w1 ⟨rfl, hw1⟩
    obtain rfl : w1 = w := hw1
    go_wp2_with fail
    go_ret
    have hf := HFIN.out ⟨g, off, none⟩ 0 (.inr ⟨rfl, HBN.out⟩) (by have := HBN.out; omega)
    rw [show bs.length - c = 0 by have := HBN.out; omega] at hf
    exact ⟨_, rfl, hf⟩
  · go_enter Try.func43, Try.ntmps43
    go_wp2_with fail
    refine (bad_any (w := w) (base := base) (bs := bs) (bad := false) ⟨g, off, c, all, sp, HX.out⟩).mono ?_
    rintro e w1 ⟨rfl, hw1⟩
    obtain rfl : w1 = w := hw1
    go_wp2_with fail
    go_ret
    exact ⟨_, rfl, HFIN.out _ _ (.inl rfl) (by omega)⟩
set_option maxRecDepth 100000 in
theorem left_any {w : World} {base cb : Nat} {bs : List Int} (h : PC w base cb bs false) :
    Calls Try.prog 46 #[.pointer (some ⟨cb, 0, none⟩)] w fun e w' => e = .returned (.int .i64 (bs.length : Int)) ∧ w' = w := by
  have HP := Aside0.mk h
  obtain ⟨g, off, c, all, sp, hx⟩ := h
  have c0 : w.cell? ⟨cb, 0, none⟩ = some (.slice (some ⟨g, off, none⟩) bs.length c) := cell_blk hx.cells
  clear hx
  go_enter Try.func46, Try.ntmps46
  go_wp2_with fail
  refine (bad_any HP.out).mono ?_
  rintro e w1 ⟨rfl, rfl⟩
  go_wp2_with fail
  go_ret
  exact ⟨rfl, rfl⟩
def maxL : List Int → Int
  | [] => 0
  | x :: l => max x (maxL l)
theorem maxL_snoc (l : List Int) (x : Int) (hx : 0 ≤ x) : maxL (l ++ [x]) = max (maxL l) x := by
  induction l with
  | nil => simp [maxL]; omega
  | cons y l ih => simp only [List.cons_append, maxL, ih]; omega
theorem maxL_range (l : List Int) (h : ∀ x ∈ l, 0 ≤ x ∧ x ≤ 255) : 0 ≤ maxL l ∧ maxL l ≤ 255 := by
  induction l with
  | nil => simp [maxL]
  | cons y l ih =>
    have h1 := h y List.mem_cons_self
    have h2 := ih (fun z hz => h z (List.mem_cons_of_mem _ hz))
    simp only [maxL]
    omega
set_option maxHeartbeats 8000000 in
set_option maxRecDepth 100000 in
theorem max_any {w : World} (A : Option Addr) (c : Nat) (l : List Int) (hC : Kd.C (Kd.int .u8) w A l.length l) (hb : ∀ x ∈ l, 0 ≤ x ∧ x ≤ 255) (h0 : 0 < l.length) (hl : l.length ≤ 200000) :
    Calls Try.prog 45 #[.slice A l.length c] w fun e w' => e = .returned (.int .u8 (maxL l)) ∧ w' = w := by
  have HC := Aside0.mk hC
  have HBY := Aside0.mk hb
  obtain ⟨a, rfl, hcell⟩ := Kd.at_int hC 0 (by omega) (by omega)
  have hz : a.add (0 : Int).toNat = a := by unfold Addr.add; simp
  rw [hz] at hcell
  have hm1 : maxL (l.take 1) = rd l 0 := by
    match l, h0 with
    | x :: l, _ =>
      have := hb x List.mem_cons_self
      simp [maxL, rd]
      omega
  obtain ⟨x0, hx0⟩ : ∃ x, x = rd l 0 := ⟨_, rfl⟩
  rw [← hx0] at hcell hm1
  have HM1 := Aside0.mk hm1
  have hlt : (0 : Int) < l.length := by omega
  clear hC hb hm1 hx0 hz
  go_enter Try.func45, Try.ntmps45
  go_wp2_with fail
  go_loopg [4, 3] (l.length - 1) (fun g v4 v3 wr => ∃ (i : Nat) (x : Int), Aside0 (i + g = l.length ∧ 1 ≤ i) ∧ v4 = .int .i64 i ∧ v3 = .int .u8 x ∧ Aside0 (x = maxL (l.take i)) ∧ Aside0 (wr = w))
  case atStart => exact ⟨1, x0, ⟨by omega⟩, rfl, rfl, ⟨HM1.out.symm⟩, ⟨rfl⟩⟩
  case round =>
    obtain ⟨i, x, HI, rfl, rfl, HX, HW⟩ := hrel
    by_cases hi : i < l.length
    · obtain ⟨ad, e, hc2⟩ := Kd.at_int HC.out (i : Int) (by omega) (by omega)
      cases e
      rw [← HW.out, Int.toNat_natCast] at hc2
      have hyb := rd_byte HBY.out i
      have hxb := maxL_range (l.take i) (fun z hz => HBY.out z (List.mem_of_mem_take hz))
      rw [← HX.out] at hxb
      have HNX := Aside0.mk (show maxL (l.take (i + 1)) = max x (rd l (i : Int)) by
        rw [List.take_succ_eq_append_getElem hi, maxL_snoc _ _ (HBY.out _ (List.getElem_mem hi)).1, rd_get i hi, HX.out])
      obtain ⟨y, hy⟩ : ∃ y, y = rd l (i : Int) := ⟨_, rfl⟩
      rw [← hy] at hc2 hyb HNX
      obtain ⟨hy0, hy1⟩ := hyb
      obtain ⟨hx0, hx1⟩ := hxb
      clear hy
      by_cases hlt2 : x < y
      · have hmx : max x y = y := by omega
        rw [hmx] at HNX
        go_wp2_with fail
        go_roundg (gk - 1)
        case measure => have := HI.out; omega
        case rel => exact ⟨i + 1, y, ⟨by have := HI.out; omega⟩, by go_num, by simp [hmx], ⟨HNX.out.symm⟩, HW⟩
      · have hmx : max x y = x := by omega
        rw [hmx] at HNX
        go_wp2_with fail
        go_roundg (gk - 1)
        case measure => have := HI.out; omega
        case rel => exact ⟨i + 1, x, ⟨by have := HI.out; omega⟩, by go_num, by simp [hmx], ⟨HNX.out.symm⟩, HW⟩
    · have hin : i = l.length := by have := HI.out; omega
      subst hin
      rw [List.take_length] at HX
      go_wp2_with fail
      go_ret
      exact ⟨by rw [← HX.out]; rfl, HW.out⟩
end Cell
end Go.Proofs.Ytkfbegmfepehiaa
