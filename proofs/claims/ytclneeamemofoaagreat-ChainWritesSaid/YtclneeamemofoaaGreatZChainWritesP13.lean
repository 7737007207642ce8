/- Part 14 of the proof of ChainWrites: lemmas alone. -/
import Derived.Test.YtclneeamemofoaaGreatZChainWritesP12
import Derived.Below
import Derived.Lib.Hide
import Derived.OwnWalk
import Derived.WalkKit
import Derived.KernelRfl
import Derived.RowKit3
import Derived.Deep.LoopGhost
import Derived.Deep.QuietTactic
import Derived.BigQuiet
import Derived.WideLaws
import Derived.Great.BuildSlice
import Derived.Outline
import Derived.Deep.DeepCutAuto
import Derived.WalkSpells
import Derived.RegionTactic
import Derived.BigRegion
import Derived.WalkLawsBesides
import Derived.IntWalk
import Derived.Lib.AppendZerosOnto
section
namespace Go.Proofs.YtclneeamemofoaaGreat
set_option linter.unusedVariables false
set_option linter.unusedSimpArgs false
open Go.RowKit Go.Proofs.YtclneeamemofoaaGreatW.PrintWords Go.Proofs.YtclneeamemofoaaGreatW.PrintLast Go.Proofs.YtclneeamemofoaaGreatW.PrintMore
namespace Cell
open Go.Num Go.Crc PCellGets PChain
theorem and_one (d : Nat) (hd : d < 4294967296) : Go.bits .and .u32 (d : Int) 1 = ((d % 2 : Nat) : Int) := by
  rw [bits_and32, BitVec.toNat_and, b32_nat d hd]
  show ((d &&& 1 : Nat) : Int) = _
  rw [Nat.and_one_is_mod]
theorem pstep (d : Nat) (hd : d < 4294967296) : Go.bits .xor .u32 ((d : Int) / 2) (Go.bits .and .u32 2197175160 (-Go.bits .and .u32 (d : Int) 1 % 4294967296)) = ((Go.Crc.step (BitVec.ofNat 32 d)).toNat : Int) := by
  rw [and_one d hd, bits_xor32]
  congr 2
  unfold Go.Crc.step
  rw [lsb_odd, BitVec.toNat_ofNat, Nat.mod_eq_of_lt hd]
  have hh : b32 ((d : Int) / 2) = BitVec.ofNat 32 d >>> 1 := by
    rw [show (d : Int) / 2 = ((d / 2 : Nat) : Int) by omega]
    apply BitVec.eq_of_toNat_eq
    rw [b32_nat _ (by omega), BitVec.toNat_ushiftRight, BitVec.toNat_ofNat, Nat.mod_eq_of_lt hd, Nat.shiftRight_eq_div_pow]
  rw [hh]
  congr 1
  by_cases h : d % 2 = 1
  · rw [if_pos (by simpa using h), show (-((d % 2 : Nat) : Int)) % 4294967296 = 4294967295 by omega]
    decide
  · rw [if_neg (by simpa using h), show (-((d % 2 : Nat) : Int)) % 4294967296 = 0 by omega]
    decide
theorem steps_succ (j : Nat) (c : BitVec 32) : steps (j + 1) c = Go.Crc.step (steps j c) := by rw [steps_add]; rfl
theorem of_toNat (c : BitVec 32) : BitVec.ofNat 32 c.toNat = c := by simp
theorem rd_byte {l : List Int} (hb : ∀ x ∈ l, 0 ≤ x ∧ x ≤ 255) (i : Nat) : 0 ≤ rd l (i : Int) ∧ rd l (i : Int) ≤ 255 := by
  unfold rd
  rw [Int.toNat_natCast, List.getD_eq_getElem?_getD]
  by_cases hi : i < l.length
  · rw [List.getElem?_eq_getElem hi]; exact hb _ (List.getElem_mem hi)
  · rw [List.getElem?_eq_none (by omega)]; exact ⟨by decide, by decide⟩
theorem rd_get {l : List Int} (i : Nat) (hi : i < l.length) : rd l (i : Int) = l[i] := by
  unfold rd
  rw [Int.toNat_natCast, List.getD_eq_getElem?_getD, List.getElem?_eq_getElem hi]
  rfl
set_option maxHeartbeats 8000000 in
set_option maxRecDepth 100000 in
theorem more_any (s : Int) (A : Option Addr) (cc : Nat) (l : List Int) (w : World) (hC : Kd.C (Kd.int .u8) w A l.length l) (hb : ∀ x ∈ l, 0 ≤ x ∧ x ≤ 255) (hs : 0 ≤ s ∧ s < 4294967296) (hl : l.length ≤ 1000000) :
    Calls Tryz.prog 88 #[.int .u32 s, .slice A l.length cc] w fun e w' => e = .returned (.int .u32 (more s l)) ∧ w' = w := by
  have HC := Aside0.mk hC
  have HBY := Aside0.mk hb
  have HMR := Aside0.mk (show more s l = Go.bits .xor .u32 IntKind.u32.max ((run (b32 s ^^^ ones) l).toNat : Int) by
    rw [bits_xor32, b32_toInt, BitVec.xor_comm]
    rfl)
  have HST := Aside0.mk (show Go.bits .xor .u32 IntKind.u32.max s = ((b32 s ^^^ ones).toNat : Int) by
    rw [bits_xor32, BitVec.xor_comm]
    rfl)
  clear hC hb
  obtain ⟨hs0, hs1⟩ := hs
  go_enter Tryz.func88, Tryz.ntmps88
  go_wp2_with fail
  go_loopg [12, 7, 5] l.length (fun g v12 v7 v5 wr => ∃ (i : Nat) (c : Nat), Aside0 (i + g = l.length) ∧ v12 = .int .i64 i ∧ v5 = .int .u32 c ∧ Aside0 (c = (run (b32 s ^^^ ones) (l.take i)).toNat) ∧ Aside0 (wr = w))
  case atStart => exact ⟨0, (b32 s ^^^ ones).toNat, ⟨by omega⟩, rfl, by rw [HST.out], ⟨rfl⟩, ⟨rfl⟩⟩
  case round =>
    obtain ⟨i, c, HI, rfl, rfl, HCC, HW⟩ := hrel
    have hlt : c < 4294967296 := by rw [HCC.out]; exact (run (b32 s ^^^ ones) (l.take i)).isLt
    by_cases hi : i < l.length
    · obtain ⟨ad, rfl, hcell⟩ := Kd.at_int HC.out (i : Int) (by omega) (by omega)
      rw [← HW.out, Int.toNat_natCast] at hcell
      have HRN := Aside0.mk (show run (b32 s ^^^ ones) (l.take (i + 1)) = steps 8 (run (b32 s ^^^ ones) (l.take i) ^^^ b32 (rd l (i : Int))) by
        rw [List.take_succ_eq_append_getElem hi, run_append, rd_get i hi]
        rfl)
      have hxb := rd_byte HBY.out i
      obtain ⟨x, hx⟩ : ∃ x, x = rd l (i : Int) := ⟨_, rfl⟩
      rw [← hx] at hcell hxb HRN
      obtain ⟨hx0, hx1⟩ := hxb
      clear hx
      have HXO := Aside0.mk (show Go.bits .xor .u32 (c : Int) x = ((run (b32 s ^^^ ones) (l.take i) ^^^ b32 x).toNat : Int) by
        rw [bits_xor32, HCC.out, b32_toInt])
      go_wp2_with fail
      go_loopg [20, 5] 8 (fun g v20 v5 wq => ∃ (j : Nat) (d : Nat), Aside0 (j + g = 8) ∧ v20 = .int .i64 j ∧ v5 = .int .u32 d ∧ d < 4294967296 ∧ Aside0 (d = (steps j (run (b32 s ^^^ ones) (l.take i) ^^^ b32 x)).toNat) ∧ Aside0 (wq = w))
      case atStart => exact ⟨0, (run (b32 s ^^^ ones) (l.take i) ^^^ b32 x).toNat, ⟨by omega⟩, rfl, by rw [HXO.out], (run (b32 s ^^^ ones) (l.take i) ^^^ b32 x).isLt, ⟨rfl⟩, HW⟩
      case round =>
        obtain ⟨j, d, HJ, rfl, rfl, hd, HD, HW2⟩ := hrel
        by_cases hj : j < 8
        · have HPS := Aside0.mk (pstep d hd)
          have HNX := Aside0.mk (show BitVec.ofNat 32 d = steps j (run (b32 s ^^^ ones) (l.take i) ^^^ b32 x) by rw [HD.out, of_toNat])
          go_wp2_with fail
          go_roundg (8 - (j + 1))
          case measure => have := HJ.out; omega
          case rel => exact ⟨j + 1, (Go.Crc.step (BitVec.ofNat 32 d)).toNat, ⟨by have := HJ.out; omega⟩, by go_num, by rw [HPS.out], (Go.Crc.step (BitVec.ofNat 32 d)).isLt, ⟨by rw [HNX.out, steps_succ]⟩, HW2⟩
        · have hj8 : j = 8 := by have := HJ.out; omega
          subst hj8
          go_wp2_with fail
          go_roundg (l.length - (i + 1))
          case measure => have := HI.out; omega
          case rel => exact ⟨i + 1, d, ⟨by have := HI.out; omega⟩, by go_num, rfl, ⟨by rw [HRN.out]; exact HD.out⟩, HW2⟩
    · have hin : i = l.length := by have := HI.out; omega
      subst hin
      rw [List.take_length] at HCC
      go_wp2_with fail
      go_ret
      exact ⟨by rw [HMR.out, ← HCC.out]; rfl, HW.out⟩
set_option maxRecDepth 100000 in
theorem sum_any (A : Option Addr) (cc : Nat) (l : List Int) (w : World) (hC : Kd.C (Kd.int .u8) w A l.length l) (hb : ∀ x ∈ l, 0 ≤ x ∧ x ≤ 255) (hl : l.length ≤ 1000000) :
    Calls Tryz.prog 76 #[.slice A l.length cc] w fun e w' => e = .returned (.int .u32 (Crc.sum l)) ∧ w' = w := by
  have HM := Aside0.mk (more_any 0 A cc l w hC hb ⟨by decide, by decide⟩ hl)
  clear hC hb
  go_enter Tryz.func76, Tryz.ntmps76
  go_wp2_with fail
  refine HM.out.mono ?_
  rintro e w1 ⟨rfl, rfl⟩
  go_wp2_with fail
  go_ret
  exact ⟨rfl, rfl⟩
set_option maxHeartbeats 8000000 in
set_option maxRecDepth 100000 in
theorem grow_any (n : Nat) (w : World) (h0 : 0 < n) (hn : n ≤ 1000000) :
    Calls Tryz.prog 87 #[.slice none 0 0, .int .i64 n] w fun e w' => ∃ v, e = .returned v ∧ Kd.R (Kd.int .u8) 5 w' w.heap.size (fun _ => True) v [] ∧ Below w.heap.size w w' := by
  obtain ⟨i0, hi0, hzz⟩ := Option.map_eq_some_iff.1 infoU8
  simp only [Prod.mk.injEq] at hzz
  obtain ⟨hz0, hz1, hz2⟩ := hzz
  have hrz : ∀ ty, (Builtin.append_ #[39, 3] ty #[.slice none 0 0, .int .i64 (n : Int)]).run Tryz.prog w =
      .ok (.slice (some ⟨w.heap.size, 0, none⟩) n (grownCap w n 0 5)) (w.drew.alloc (.cells ((#[] : Array Value) ++ Builtin.zeroCells (Value.int .u8 0).cells n ++ Builtin.zeroCells (Value.int .u8 0).cells (grownCap w n 0 5 - n)) 5)) := fun ty => by
    have h := Lib.run_append_grow_zeros w 39 3 ty 5 i0 (.int .u8 0) .i64 .i64 Tryz.underlying39 Tryz.underlying3 hi0 hz0 none 0 0 [] (by rw [hz1]; exact run_firstCells_none w.drew 1 0 0 0) n (by omega) (by omega) (by omega) (by omega) (by rw [hz2]; omega)
      (by rw [hz2]; exact growslice_fits (by omega) (by omega))
    rw [Nat.zero_add] at h
    exact h
  have hGn : n ≤ grownCap w n 0 5 := grownCap_ge w _ _ _
  have hG63 : grownCap w n 0 5 ≤ 9223372036854775807 := by
    have := grownCap_le_maxLen w n 0 5 (by unfold maxLen; omega)
    unfold maxLen at this
    omega
  obtain ⟨G, hG⟩ : ∃ G, G = grownCap w n 0 5 := ⟨_, rfl⟩
  rw [← hG] at hrz hGn hG63
  obtain ⟨Z, hZ⟩ : ∃ Z, Z = (#[] : Array Value) ++ Builtin.zeroCells (Value.int .u8 0).cells n ++ Builtin.zeroCells (Value.int .u8 0).cells (G - n) := ⟨_, rfl⟩
  have HZ := Aside0.mk (show Z.size = G by rw [hZ]; simp [Builtin.zeroCells, Value.cells]; omega)
  rw [← hZ] at hrz
  have HR := Aside0.mk hrz
  have hn0 : (n : Int) > 0 := by omega
  clear hrz hG hZ hi0 hz0 hz1 hz2
  go_enter Tryz.func87, Tryz.ntmps87
  go_wp2_with (at_builtin; refine Lib.wpList_append_run _ rfl _ _ _ _ rfl _ _ rfl rfl _ _ (HR.out _) ?_)
  all_goals
    go_ret
    obtain ⟨w2, hw2⟩ : ∃ w2, w2 = w.drew.alloc (.cells Z 5) := ⟨_, rfl⟩
    have hx : w2.heap[w.heap.size]? = some (.cells Z 5 (0, 0)) := by rw [hw2]; exact heap_alloc_new w.drew _
    have hb : Below w.heap.size w w2 := by rw [hw2]; exact (below_drew1 (Below.refl _ _)).alloc (Nat.le_refl _) _
    refine ⟨.slice (some ⟨w.heap.size, 0, none⟩) 0 G, rfl, ?_, ?_⟩
    · have := row_of (w := w2) (base := w.heap.size) (g := w.heap.size) (cap := G) (ok := fun _ => True) (xs := []) (sp := Z.toList) (by rw [hx]; simp) (Nat.le_refl _) trivial (by have := HZ.out; simp; omega) hG63
      rw [hw2] at this
      exact this
    · rw [hw2] at hb
      exact hb
def sz2 (n1 n2 : Nat) (i : Nat) : Nat := match i with
  | 0 => 0
  | 1 => n1
  | _ => n1 + n2
def ct2 (xs ys : List Int) (i : Nat) : List Int := match i with
  | 0 => []
  | 1 => xs
  | _ => xs ++ ys
set_option maxHeartbeats 8000000 in
set_option maxRecDepth 100000 in
theorem concat_any {w : World} (g : Nat) (A B : Option Addr) (ca cb : Nat) (xs ys : List Int) (hg : g < w.heap.size) (h0 : w.cell? ⟨g, 0, none⟩ = some (.slice A xs.length ca)) (h1 : w.cell? ⟨g, 1, none⟩ = some (.slice B ys.length cb)) (hA : Kd.C (Kd.int .u8) w A xs.length xs) (hB : Kd.C (Kd.int .u8) w B ys.length ys) (hy : 0 < ys.length) (hm : xs.length + ys.length ≤ 1000000) :
    Calls Tryz.prog 74 #[.slice (some ⟨g, 0, none⟩) 2 2] w fun e w' => ∃ v, e = .returned v ∧ Kd.R (Kd.int .u8) 5 w' w.heap.size (fun _ => True) v (xs ++ ys) ∧ Below w.heap.size w w' := by
  have HA := Aside0.mk hA
  have HB := Aside0.mk hB
  clear hA hB
  go_enter Tryz.func74, Tryz.ntmps74
  go_wp2_with fail
  go_loopg [11, 3, 5] 2 (fun gk v11 v3 v5 wr => ∃ i : Nat, Aside0 (i + gk = 2) ∧ v11 = .int .i64 i ∧ v3 = .int .i64 (sz2 xs.length ys.length i) ∧ Aside0 (wr = w))
  case atStart => exact ⟨0, ⟨by omega⟩, rfl, rfl, ⟨rfl⟩⟩
  case round =>
    obtain ⟨i, HI, rfl, rfl, HW⟩ := hrel
    have h0' : wr.cell? ⟨g, 0, none⟩ = some (.slice A xs.length ca) := by rw [HW.out]; exact h0
    have h1' : wr.cell? ⟨g, 1, none⟩ = some (.slice B ys.length cb) := by rw [HW.out]; exact h1
    rcases (show i = 0 ∨ i = 1 ∨ i = 2 by have := HI.out; omega) with rfl | rfl | rfl
    · rw [show sz2 xs.length ys.length 0 = 0 from rfl]
      go_wp2_with fail
      go_roundg 1
      case measure => have := HI.out; omega
      case rel => exact ⟨1, ⟨by omega⟩, by go_num, by rw [show sz2 xs.length ys.length 1 = xs.length from rfl], HW⟩
    · rw [show sz2 xs.length ys.length 1 = xs.length from rfl]
      go_wp2_with fail
      go_roundg 0
      case measure => have := HI.out; omega
      case rel => exact ⟨2, ⟨by omega⟩, by go_num, by rw [show sz2 xs.length ys.length 2 = xs.length + ys.length from rfl]; go_num, HW⟩
    · rw [show sz2 xs.length ys.length 2 = xs.length + ys.length from rfl]
      clear h0' h1'
      go_wp2_with fail
      have hgr := grow_any (xs.length + ys.length) wr (by omega) hm
      rw [Int.natCast_add] at hgr
      refine hgr.mono ?_
      rintro e w2 ⟨v2, rfl, hr2, b2⟩
      clear hgr
      rw [HW.out] at hr2 b2
      obtain ⟨A2, c2, rfl⟩ := Kd.R_slice hr2
      have HR2 := Aside0.mk hr2
      have HB2 := Aside0.mk b2
      clear hr2 b2 HW
      rw [List.length_nil]
      go_wp2_with fail
      obtain ⟨wo, rfl⟩ : ∃ wo : World, wo = wr := ⟨_, rfl⟩
      go_loopg [27, 8, 6] 2 (fun gk v27 v8 v6 wr => ∃ (i : Nat) (A' : Option Addr) (c' : Nat), Aside0 (i + gk = 2) ∧ v27 = .int .i64 i ∧ v6 = .slice A' (ct2 xs ys i).length c' ∧ Aside0 (Kd.R (Kd.int .u8) 5 wr w.heap.size (fun _ => True) (.slice A' (ct2 xs ys i).length c') (ct2 xs ys i)) ∧ Aside0 (Below w.heap.size w wr))
      case atStart => exact ⟨0, A2, c2, ⟨by omega⟩, rfl, rfl, HR2, HB2⟩
      case round =>
        clear HR2 HB2
        obtain ⟨i, A', c', HI2, rfl, rfl, HR, HBq⟩ := hrel
        have k0 : wr.cell? ⟨g, 0, none⟩ = some (.slice A xs.length ca) := by rw [HBq.out.cell hg]; exact h0
        have k1 : wr.cell? ⟨g, 1, none⟩ = some (.slice B ys.length cb) := by rw [HBq.out.cell hg]; exact h1
        rcases (show i = 0 ∨ i = 1 ∨ i = 2 by have := HI2.out; omega) with rfl | rfl | rfl
        · rw [show ct2 xs ys 0 = [] from rfl] at HR ⊢
          go_wp2_with ((with_reducible refine gate_builtin (b := .append) (xs := #[.tmp 31, .tmp 32]) rfl ?_); at_builtin; refine Hid.out ?_)
          refine Lib.hid ?_
          refine Kd.R_append_rows (Kd.int .u8) (Rr := (Kd.int .u8).K wr) (w0 := w) w.heap.size rfl (.tmp 31) (.tmp 32) 39 5 (.int .u8 0) 1 rfl Tryz.underlying39 infoU8 rfl (by decide) (by omega) (.slice A' 0 c') [] xs A xs.length ca (fun _ => True) (fun _ => False) rfl rfl HR.out (Kd.C_below HA.out HBq.out) (fun x cs h => h) (fun _ hk => hk.elim) (fun _ _ => trivial) HBq.out HBq.out.size (by simp; omega) ?_
          intro v3 w3 ho hb _ _
          rw [List.nil_append] at ho
          obtain ⟨A3, c3, rfl⟩ := Kd.R_slice ho
          have HO3 := Aside0.mk ho
          have HB3 := Aside0.mk hb
          clear ho hb
          go_wp2_with fail
          go_roundg 1
          case measure => have := HI2.out; omega
          case rel => exact ⟨1, A3, c3, ⟨by omega⟩, by go_num, rfl, HO3, HB3⟩
        · rw [show ct2 xs ys 1 = xs from rfl] at HR ⊢
          go_wp2_with ((with_reducible refine gate_builtin (b := .append) (xs := #[.tmp 31, .tmp 32]) rfl ?_); at_builtin; refine Hid.out ?_)
          refine Lib.hid ?_
          refine Kd.R_append_rows (Kd.int .u8) (Rr := (Kd.int .u8).K wr) (w0 := w) w.heap.size rfl (.tmp 31) (.tmp 32) 39 5 (.int .u8 0) 1 rfl Tryz.underlying39 infoU8 rfl (by decide) (by omega) (.slice A' xs.length c') xs ys B ys.length cb (fun _ => True) (fun _ => False) rfl rfl HR.out (Kd.C_below HB.out HBq.out) (fun x cs h => h) (fun _ hk => hk.elim) (fun _ _ => trivial) HBq.out HBq.out.size (by omega) ?_
          intro v3 w3 ho hb _ _
          obtain ⟨A3, c3, rfl⟩ := Kd.R_slice ho
          have HO3 := Aside0.mk ho
          have HB3 := Aside0.mk hb
          clear ho hb
          go_wp2_with fail
          go_roundg 0
          case measure => have := HI2.out; omega
          case rel => exact ⟨2, A3, c3, ⟨by omega⟩, by go_num, by rw [show (ct2 xs ys 2).length = xs.length + ys.length from List.length_append], HO3, HB3⟩
        · rw [show ct2 xs ys 2 = xs ++ ys from rfl] at HR ⊢
          clear k0 k1
          go_wp2_with fail
          go_ret
          exact ⟨_, rfl, HR.out, HBq.out⟩
end Cell
end Go.Proofs.YtclneeamemofoaaGreat
end
