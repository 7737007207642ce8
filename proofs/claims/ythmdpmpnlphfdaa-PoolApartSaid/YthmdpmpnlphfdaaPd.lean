/- The pool in memory: PoolApart. -/
import Derived.Test.YthmdpmpnlphfdaaPk
import Derived.Test.YthmdpmpnlphfdaaPa
import Derived.Test.YthmdpmpnlphfdaaOp
import Derived.Test.YthmdpmpnlphfdaaReg2
import Derived.Below
import Derived.Deep.MidRow
import Derived.Deep.WholeRow
import Derived.Great.BuildSlice
import Derived.Lib.Hide
import Derived.OwnWalk
import Derived.WalkKit
import Derived.KernelRfl
import Derived.RowKit3
import Derived.Deep.LoopGhost
import Derived.Deep.QuietTactic
import Derived.BigQuiet
import Derived.WideLaws
import Derived.Outline
import Derived.Deep.DeepCutAuto
import Derived.Deep.CutBlock
import Derived.WalkSpells
import Derived.RegionTactic
import Derived.BigRegion
import Derived.WalkLawsBesides
namespace Go.Proofs.Ythmdpmpnlphfdaa
set_option linter.unusedVariables false
set_option linter.unusedSimpArgs false
open Go.RowKit Go.Proofs.YthmdpmpnlphfdaaW.PrintWords Go.Proofs.YthmdpmpnlphfdaaW.PrintLast Go.Proofs.YthmdpmpnlphfdaaW.PrintMore
namespace Bits
open Go.Bits Go.Pool PPoolDoes Go.Proofs.Ythmdpmpnlphfdaa.Op
def boolCells (l : List Bool) : Array Value := (l.map Value.bool).toArray
/-- A row of truth values in one block. -/
def Held (w : World) (hb : Nat) (l : List Bool) : Prop := w.heap[hb]? = some (.cells (boolCells l) 4 (0, 0))
theorem Held.get {w : World} {hb : Nat} {l : List Bool} (h : Held w hb l) (i : Nat) (hi : i < l.length) : w.cell? ⟨hb, i, none⟩ = some (.bool (l.getD i false)) := by
  have := blk_cell h i
  rw [this]
  simp [boolCells, List.getD_eq_getElem?_getD, List.getElem?_eq_getElem hi]
theorem Held.fro {w : World} {hb : Nat} {l : List Bool} (h : Held w hb l) (i : Nat) : w.frozen? ⟨hb, i, none⟩ = false := blk_frozen h i
theorem Held.put {w : World} {hb : Nat} {l : List Bool} (h : Held w hb l) (i : Nat) (b : Bool) : Held (w.setCell ⟨hb, i, none⟩ (.bool b)) hb (l.set i b) ∧ Only hb w (w.setCell ⟨hb, i, none⟩ (.bool b)) := by
  refine ⟨?_, ⟨rfl, rfl, rfl, by simp [World.setCell], fun k _ hk => Below.heap_setCell _ _ _ _ hk⟩⟩
  have := blk_set h i (.bool b)
  unfold Held
  rw [this]
  simp [boolCells]
theorem Held.lt {w : World} {hb : Nat} {l : List Bool} (h : Held w hb l) : hb < w.heap.size := blk_lt h
theorem Held.only {w w' : World} {hb b : Nat} {l : List Bool} (h : Held w hb l) (ho : Only b w w') (hne : hb ≠ b) : Held w' hb l := ho.blk h hne
/-- The pool and what is held, side by side. -/
structure Side (w0 w : World) (pb sb hb : Nat) (l k : List Bool) : Prop where
  pool : PAt w pb sb 5 l
  held : Held w hb k
  bel : Below w0.heap.size w0 w
  sbase : w0.heap.size ≤ sb
  hbase : w0.heap.size ≤ hb
theorem Side.ne {w0 w : World} {pb sb hb : Nat} {l k : List Bool} (h : Side w0 w pb sb hb l k) : hb ≠ pb ∧ hb ≠ sb := by
  have hh := h.held
  unfold Held at hh
  obtain ⟨ws, hw, _⟩ := h.pool.set
  refine ⟨fun e => ?_, fun e => ?_⟩
  · have := h.pool.cells
    rw [← e, hh] at this
    simp at this
  · rw [← e, hh] at hw
    simp at hw
theorem Side.below {w0 w w' : World} {pb sb hb : Nat} {l k : List Bool} (h : Side w0 w pb sb hb l k) (b : Below w.heap.size w w') : Side w0 w' pb sb hb l k :=
  ⟨h.pool.below b, (b.block hb h.held.lt).trans h.held, h.bel.trans (b.mono h.bel.size), h.sbase, h.hbase⟩
theorem Side.pool_to {w0 w w' : World} {pb sb hb : Nat} {l l' k : List Bool} (h : Side w0 w pb sb hb l k) (hp : PAt w' pb sb 5 l') (ho : Only sb w w') : Side w0 w' pb sb hb l' k :=
  ⟨hp, h.held.only ho h.ne.2, ho.below h.bel h.sbase h.bel.size, h.sbase, h.hbase⟩
theorem Side.put {w0 w : World} {pb sb hb : Nat} {l k : List Bool} (h : Side w0 w pb sb hb l k) (i : Nat) (b : Bool) : Side w0 (w.setCell ⟨hb, i, none⟩ (.bool b)) pb sb hb l (k.set i b) := by
  obtain ⟨h1, h2⟩ := h.held.put i b
  exact ⟨h.pool.step (h2.block pb h.pool.lt (Ne.symm h.ne.1)) (h2.block sb h.pool.set.lt (Ne.symm h.ne.2)), h1, h2.below h.bel h.hbase h.bel.size, h.sbase, h.hbase⟩
set_option maxHeartbeats 8000000 in
set_option maxRecDepth 100000 in
theorem apart_no (a0 : Int) (A1 : Option Addr) (n1 c1 : Nat) (A2 : Option Addr) (n2 c2 : Nat) (w : World) (hi : inI64 a0) (h0 : a0 < 0) :
    Calls Try.prog 4 #[.int .i64 a0, .slice A1 n1 c1, .slice A2 n2 c2] w fun e w' => e = .returned (.bool true) ∧ Below w.heap.size w w' := by
  have hm : -60 < a0.tmod 60 ∧ a0.tmod 60 ≤ 0 := by
    obtain ⟨b, rfl⟩ : ∃ b : Int, a0 = -b := ⟨-a0, by omega⟩
    rw [Int.neg_tmod, Int.tmod_eq_emod_of_nonneg (by omega)]
    omega
  obtain ⟨m, hmm⟩ : ∃ m, m = a0.tmod 60 := ⟨_, rfl⟩
  rw [← hmm] at hm
  have HM := Aside0.mk hmm
  have HH := Aside0.mk hm
  clear hmm
  go_enter Try.func4, Try.ntmps4
  go_wp2_with fail
  rw [← HM.out, wrap_id (5 + m) (by have := HH.out; omega) (by have := HH.out; omega)]
  by_cases hz : m < 0
  · refine (pool_of_no 5 (5 + m) w (.inr (.inl (by omega)))).mono ?_
    rintro e w1 ⟨rfl, rfl⟩
    go_wp2_with fail
    refine (awake_any _).mono ?_
    rintro e w4 ⟨rfl, b⟩
    go_wp2_with fail
    go_ret
    exact ⟨rfl, b⟩
  · obtain rfl : m = 0 := by omega
    refine (pool_of_yes 5 0 w (by omega)).mono ?_
    rintro e w1 ⟨pb, sb, rfl, p1, b1, g1, g2⟩
    have HB := Aside0.mk b1
    clear p1 b1 g1 g2
    go_wp2_with fail
    refine (awake_any _).mono ?_
    rintro e w4 ⟨rfl, b⟩
    go_wp2_with fail
    go_ret
    exact ⟨rfl, HB.out.trans (b.mono HB.out.size)⟩
theorem made_falses (n : Nat) : madeCells (Value.bool false).cells (n * 1) = boolCells (List.replicate n false) := by
  unfold boolCells
  apply Array.ext
  · simp [madeCells]
  · intro i h1 h2
    simp [madeCells, Value.cells, Nat.mod_one]
theorem make_bools (k : Int) (n : Nat) (hk : k = n) (hn : n ≤ 4096) (W : World) : (Instr.makeSlice 27 (.int .i64 k) (.int .i64 k)).run Try.prog W = .ok (.slice (some ⟨W.heap.size, 0, none⟩) n n) (W.alloc (.cells (boolCells (List.replicate n false)) 4)) := by
  subst hk
  have hinfo : (Try.prog.info? 4).map (fun i => (i.zero, i.size, i.bytes)) = some (some (.bool false), 1, 1) := by kernel_rfl
  cases hi : Try.prog.info? 4 with
  | none => rw [hi] at hinfo; simp at hinfo
  | some i =>
    rw [hi] at hinfo
    simp only [Option.map_some, Option.some.injEq, Prod.mk.injEq] at hinfo
    obtain ⟨hz, hs, hb⟩ := hinfo
    have hr := run_make (P := Try.prog) W 27 4 i (.bool false) Try.underlying27 hi hz .i64 .i64 (n : Int) (n : Int) (by omega) (Int.le_refl _) (by rw [hb]; omega) (by omega)
    rw [hs] at hr
    simp only [Int.toNat_natCast] at hr
    rw [made_falses] at hr
    exact hr
theorem keptA {w0 w : World} {A : Option Addr} {n : Nat} {xs : List Int} (h : Kd.C (Kd.int .i64) w0 A n xs) (b : Below w0.heap.size w0 w) : Kd.C (Kd.int .i64) w A n xs := Kd.C_below h b
set_option maxHeartbeats 8000000 in
set_option maxRecDepth 100000 in
theorem apart_yes (a0 : Int) (A1 : Option Addr) (c1 : Nat) (xs : List Int) (A2 : Option Addr) (c2 : Nat) (bs : List Bool) (w : World) (hi : inI64 a0) (h0 : 0 ≤ a0) (hC1 : Kd.C (Kd.int .i64) w A1 xs.length xs) (hc1 : xs.length ≤ c1) (hg : ∀ x ∈ xs, inI64 x) (hC2 : Kd.C Kd.bool w A2 bs.length bs) (hc2 : bs.length ≤ c2) :
    Calls Try.prog 4 #[.int .i64 a0, .slice A1 xs.length c1, .slice A2 bs.length c2] w fun e w' => e = .returned (.bool true) ∧ Below w.heap.size w w' := by
  obtain ⟨n, hn⟩ : ∃ n : Nat, a0 % 60 = (n : Int) := ⟨(a0 % 60).toNat, by omega⟩
  have hn60 : n < 60 := by omega
  have HN := Aside0.mk hn
  have HXS := Aside0.mk hC1
  have HBS := Aside0.mk hC2
  have HG := Aside0.mk hg
  clear hn hC1 hC2 hg
  have h0b : decide (a0 < 0) = false := by simpa using h0
  have hmk := make_bools (a0 % 60) n HN.out (by omega)
  go_enter Try.func4, Try.ntmps4
  go_wp2_with fail
  rw [HN.out]
  try rw [wrap_id (5 + (n : Int)) (by omega) (by omega)]
  refine (pool_of_yes 5 n w (by omega)).mono ?_
  rintro e w1 ⟨pb, sb, rfl, p1, b1, g1, g2⟩
  have HP := Aside0.mk p1
  have HB := Aside0.mk b1
  have HGE := Aside0.mk (show w.heap.size ≤ pb ∧ w.heap.size ≤ sb from ⟨g1, g2⟩)
  clear p1 b1 g1 g2
  by_cases hlen : 40 < xs.length
  · go_wp2_with fail
    refine (awake_any _).mono ?_
    rintro e w4 ⟨rfl, b⟩
    go_wp2_with fail
    go_ret
    exact ⟨rfl, HB.out.trans (b.mono HB.out.size)⟩
  · go_wp2_with fail
    obtain ⟨w2, hw2⟩ : ∃ w2, w2 = w1.alloc (.cells (boolCells (List.replicate n false)) 4) := ⟨_, rfl⟩
    have HSD := Aside0.mk (show Side w w2 pb sb w1.heap.size (List.replicate n false) (List.replicate n false) from by
      rw [hw2]
      exact ⟨HP.out.below ((Below.refl _ _).alloc (Nat.le_refl _) _), heap_alloc_new w1 _, HB.out.alloc HB.out.size _, HGE.out.2, HB.out.size⟩)
    rw [← hw2]
    clear hw2 HP HB HGE hmk
    obtain ⟨hb, hhb⟩ : ∃ hb, hb = w1.heap.size := ⟨_, rfl⟩
    rw [← hhb] at HSD
    rw [← hhb]
    clear hhb HN
    go_loopg [10, 11, 12, 13, 14, 15] xs.length (fun g v10 v11 v12 v13 v14 v15 wr => ∃ (i : Nat) (l : List Bool), Aside0 (i + g = xs.length) ∧ v10 = .int .i64 ((listL l).length : Int) ∧ v11 = .int .i64 i ∧ Aside0 (Side w wr pb sb hb l l) ∧ Aside0 (l.length = n))
    case atStart => exact ⟨0, List.replicate n false, ⟨by omega⟩, by rw [listL_count, List.count_replicate]; rfl, rfl, HSD, ⟨by simp⟩⟩
    case round =>
      clear HSD
      obtain ⟨i, l, HI, rfl, rfl, HSD, HLN⟩ := hrel
      by_cases hi : i < xs.length
      · obtain ⟨ad, had, hcell⟩ := Kd.at_int (Kd.C_below HXS.out HSD.out.bel) i (by omega) (by omega)
        obtain ⟨N, hN⟩ : ∃ x, x = rd xs i := ⟨_, rfl⟩
        rw [← hN, Int.toNat_natCast] at hcell
        clear hN
        subst had
        go_wp2_with fail
        refine (take_any (w0 := w) N wr HSD.out.pool HSD.out.bel HSD.out.sbase).mono ?_
        have HTK := Aside0.mk (take_took 5 l N)
        obtain ⟨l', hl'⟩ : ∃ x, x = (takeAll 5 l N).1 := ⟨_, rfl⟩
        obtain ⟨ys, hys⟩ : ∃ x, x = (takeAll 5 l N).2.1 := ⟨_, rfl⟩
        obtain ⟨r, hr⟩ : ∃ x, x = (takeAll 5 l N).2.2 := ⟨_, rfl⟩
        rw [← hl', ← hys, ← hr]
        rw [← hl', ← hys, ← hr] at HTK
        clear hl' hys hr hcell
        rintro e w3 ⟨v3, rfl, hr3, hp3, ho3⟩
        obtain ⟨A3, c3, rfl⟩ := Kd.R_slice hr3
        have HOW := Aside0.mk (show sb < wr.heap.size ∧ hb < wr.heap.size from ⟨HSD.out.pool.set.lt, HSD.out.held.lt⟩)
        have HS3 := Aside0.mk (HSD.out.pool_to hp3 ho3)
        have HR3 := Aside0.mk hr3
        have HC0 := Aside0.mk HTK.out.count
        have hyl : ys.length ≤ 60 := by
          have h1 := gaps_len l'
          have h2 := HTK.out.count
          have h3 := HTK.out.len
          have h4 := HLN.out
          omega
        have hll : (listL l).length ≤ 60 := by
          have h1 := gaps_len l
          have h4 := HLN.out
          omega
        obtain ⟨bz, hbz⟩ : ∃ bz, bz = wr.heap.size := ⟨_, rfl⟩
        rw [← hbz] at HOW HR3
        clear hr3 hp3 ho3 HSD hbz
        go_wp2_with fail
        go_loopg [10, 14] ys.length (fun g v10 v14 wq => ∃ (j : Nat), Aside0 (j + g = ys.length) ∧ v10 = .int .i64 (((listL l).length + j : Nat) : Int) ∧ v14 = .int .i64 j ∧ Aside0 (Side w wq pb sb hb l' (setAll l ((ys.take j).map (· - 5)) true)) ∧ Aside0 (Kd.R (Kd.int .i64) 3 wq w.heap.size (fun k => bz ≤ k) (.slice A3 ys.length c3) ys))
        case atStart => exact ⟨0, ⟨by omega⟩, rfl, rfl, by simpa [setAll_nil] using HS3, HR3⟩
        case round =>
          clear HS3 HR3
          obtain ⟨j, HJ, rfl, rfl, HS3, HR3⟩ := hrel
          by_cases hj : j < ys.length
          · obtain ⟨ad3, had3, hcell3⟩ := Kd.at_int (Kd.R_reads' HR3.out).2.2 j (by omega) (by omega)
            have hnx := HTK.out.next j hj
            rw [show ys[j] = rd ys j by unfold rd; simp [hj]] at hnx
            obtain ⟨y, hy⟩ : ∃ x, x = rd ys j := ⟨_, rfl⟩
            rw [← hy] at hnx
            rw [← hy, Int.toNat_natCast] at hcell3
            clear hy
            subst had3
            obtain ⟨h1, h2, h3⟩ := hnx
            unfold In at h1
            rw [HLN.out] at h1
            obtain ⟨q, rfl⟩ : ∃ q : Nat, y = 5 + q := ⟨(y - 5).toNat, by omega⟩
            rw [show (5 : Int) + q - 5 = q by omega, Int.toNat_natCast] at h2 h3
            have hq : q < n := by omega
            have HL3 := Aside0.mk (show (setAll l ((ys.take j).map (· - 5)) true).length = n by rw [setAll_len]; exact HLN.out)
            have hd := HS3.out.held.get q (by rw [HL3.out]; exact hq)
            rw [h2] at hd
            have hf := HS3.out.held.fro q
            have H3 := Aside0.mk h3
            clear h1 h2 h3
            go_wp2_with fail
            go_roundg (gk - 1)
            case measure => have := HJ.out; omega
            case rel =>
              refine ⟨j + 1, ⟨by have := HJ.out; omega⟩, by go_num, by go_num, ⟨?_⟩, ⟨?_⟩⟩
              · have := HS3.out.put q true
                rw [H3.out] at this
                exact this
              · exact Kd.R_step HR3.out (fun k hk hlt => (HS3.out.held.put q true).2.block k hlt (by have := HOW.out; omega))
          · have hje : j = ys.length := by have := HJ.out; omega
            subst hje
            rw [List.take_length, ← HTK.out.set] at HS3
            have HFIN := Aside0.mk HS3.out
            by_cases hgv : i < bs.length
            · obtain ⟨adb, hadb, hcellb⟩ := Kd.at_bool (Kd.C_below HBS.out HS3.out.bel) i (by omega) (by omega)
              obtain ⟨gv, hgvv⟩ : ∃ x, x = rdOf false bs i := ⟨_, rfl⟩
              rw [← hgvv, Int.toNat_natCast] at hcellb
              clear hgvv
              subst hadb
              by_cases hok : gv = true ∧ r = 0
              · obtain ⟨rfl, rfl⟩ := hok
                obtain ⟨hb1, hb2, hb3⟩ := HTK.out.back
                have HB2 := Aside0.mk hb2
                have HB3 := Aside0.mk hb3
                have HRB := Aside0.mk hb1
                clear hb1 hb2 hb3
                go_wp2_with fail
                refine (give_any A3 c3 ys wr HS3.out.pool (fun W h => (Kd.R_reads' (Kd.R_step HR3.out (fun k hk hlt => h.block k hlt (by have := HOW.out; omega)))).2.2) (Kd.R_reads' HR3.out).2.1 (fun x hx => by have h1 := (HTK.out.free x hx).1; unfold In at h1; have := HLN.out; omega)).mono ?_
                rw [HRB.out]
                rintro e w4 ⟨rfl, hp4, ho4⟩
                replace HS3 := Aside0.mk (HS3.out.pool_to hp4 ho4)
                replace HR3 := Aside0.mk (Kd.R_step HR3.out (fun k hk hlt => ho4.block k hlt (by have := HOW.out; omega)))
                clear hp4 ho4 HFIN
                obtain ⟨lz, hlz⟩ : ∃ lz, lz = setAll l' (ys.map (· - 5)) false := ⟨_, rfl⟩
                rw [← hlz] at HS3 HB3
                have HLZ := Aside0.mk hlz
                clear hlz hcellb
                go_wp2_with fail
                go_loopg [10, 15] ys.length (fun g v10 v15 wq => ∃ (j : Nat), Aside0 (j + g = ys.length) ∧ v10 = .int .i64 (((listL l).length : Int) + ys.length - j) ∧ v15 = .int .i64 j ∧ Aside0 (Side w wq pb sb hb lz (setAll l' ((ys.take j).map (· - 5)) false)) ∧ Aside0 (Kd.R (Kd.int .i64) 3 wq w.heap.size (fun k => bz ≤ k) (.slice A3 ys.length c3) ys))
                case atStart => exact ⟨0, ⟨by omega⟩, by go_num, rfl, by simpa [setAll_nil] using HS3, HR3⟩
                case round =>
                  clear HS3 HR3
                  obtain ⟨j, HJ', rfl, rfl, HS3, HR3⟩ := hrel
                  by_cases hj : j < ys.length
                  · obtain ⟨ad3, had3, hcell3⟩ := Kd.at_int (Kd.R_reads' HR3.out).2.2 j (by omega) (by omega)
                    have hmem : rd ys j ∈ ys := Pool.rd_mem ys j hj
                    have h1 := (HB2.out _ hmem).1
                    have h3 : (setAll l' ((ys.take j).map (· - 5)) false).set (rd ys j - 5).toNat false = setAll l' ((ys.take (j + 1)).map (· - 5)) false := by
                      rw [Pool.rd_take ys j hj, List.map_append, List.map_cons, List.map_nil, setAll_snoc]
                    obtain ⟨y, hy⟩ : ∃ x, x = rd ys j := ⟨_, rfl⟩
                    rw [← hy] at h1 h3
                    rw [← hy, Int.toNat_natCast] at hcell3
                    clear hy hmem
                    subst had3
                    unfold In at h1
                    rw [HTK.out.len, HLN.out] at h1
                    obtain ⟨q, rfl⟩ : ∃ q : Nat, y = 5 + q := ⟨(y - 5).toNat, by omega⟩
                    rw [show (5 : Int) + q - 5 = q by omega, Int.toNat_natCast] at h3
                    have hq : q < n := by omega
                    have HL3 := Aside0.mk (show (setAll l' ((ys.take j).map (· - 5)) false).length = n by rw [setAll_len, HTK.out.len]; exact HLN.out)
                    have hd := HS3.out.held.get q (by rw [HL3.out]; exact hq)
                    have hf := HS3.out.held.fro q
                    have H3 := Aside0.mk h3
                    clear h1 h3
                    go_wp2_with fail
                    go_roundg (gk - 1)
                    case measure => have := HJ'.out; omega
                    case rel =>
                      refine ⟨j + 1, ⟨by have := HJ'.out; omega⟩, by go_num, by go_num, ⟨?_⟩, ⟨?_⟩⟩
                      · have := HS3.out.put q false
                        rw [H3.out] at this
                        exact this
                      · exact Kd.R_step HR3.out (fun k hk hlt => (HS3.out.held.put q false).2.block k hlt (by have := HOW.out; omega))
                  · have hje : j = ys.length := by have := HJ'.out; omega
                    subst hje
                    rw [List.take_length, ← HLZ.out] at HS3
                    have HCN := Aside0.mk (show (listL lz).length = (listL l).length by have h1 := HB3.out; have h2 := HC0.out; omega)
                    have HLL := Aside0.mk (show lz.length = n by rw [HLZ.out, setAll_len, HTK.out.len]; exact HLN.out)
                    have hgl := gaps_len lz
                    have hll2 : (listL lz).length ≤ 60 := by have := HLL.out; omega
                    have hgn : ((gaps lz).length : Int) = (n : Int) - (listL lz).length := by have := HLL.out; omega
                    have HGN := Aside0.mk hgn
                    clear hgl hgn
                    go_wp2_with fail
                    first | rw [show ((listL l).length : Int) + ys.length - ys.length = ((listL lz).length : Int) by have := HCN.out; omega] | rw [show ((listL l).length : Int) + (ys.length : Int) = ((listL lz).length : Int) by have := HCN.out; omega]
                    refine (free_eq HGN.out wr HS3.out.pool).mono ?_
                    rintro e w5 ⟨rfl, b5⟩
                    have HS5 := Aside0.mk (HS3.out.below b5)
                    clear b5
                    go_wp2_with fail
                    refine (taken_any (w0 := w5) w5 HS5.out.pool (Below.refl _ _)).mono ?_
                    rintro e w6 ⟨v6, rfl, hr6, hp6, hb6⟩
                    obtain ⟨A6, c6, rfl⟩ := Kd.R_slice hr6
                    rw [List.length_map]
                    have HS6 := Aside0.mk (show Side w w6 pb sb hb lz lz from HS5.out.below hb6)
                    clear hr6 hp6 hb6
                    go_wp2_with fail
                    go_roundg (xs.length - (i + 1))
                    case measure => have := HI.out; omega
                    case rel => exact ⟨i + 1, lz, ⟨by have := HI.out; omega⟩, rfl, by go_num, HS6, HLL⟩
              · have hgb : (gv && r == 0) = false := by
                  cases gv
                  · rfl
                  · simp at hok ⊢
                    exact hok
                cases gv with
                | false =>
                  have HCN := HC0
                  have HLL := Aside0.mk (show l'.length = n by rw [HTK.out.len]; exact HLN.out)
                  have hgl := gaps_len l'
                  have hll2 : (listL l').length ≤ 60 := by have := HLL.out; omega
                  have hgn : ((gaps l').length : Int) = (n : Int) - (listL l').length := by have := HLL.out; omega
                  have HGN := Aside0.mk hgn
                  clear hgl hgn
                  go_wp2_with fail
                  first | rw [show (((listL l).length + ys.length : Nat) : Int) = ((listL l').length : Int) by have := HCN.out; omega] | rw [show ((listL l).length : Int) + (ys.length : Int) = ((listL l').length : Int) by have := HCN.out; omega]
                  refine (free_eq HGN.out wr HS3.out.pool).mono ?_
                  rintro e w5 ⟨rfl, b5⟩
                  have HS5 := Aside0.mk (HS3.out.below b5)
                  clear b5
                  go_wp2_with fail
                  refine (taken_any (w0 := w5) w5 HS5.out.pool (Below.refl _ _)).mono ?_
                  rintro e w6 ⟨v6, rfl, hr6, hp6, hb6⟩
                  obtain ⟨A6, c6, rfl⟩ := Kd.R_slice hr6
                  rw [List.length_map]
                  have HS6 := Aside0.mk (show Side w w6 pb sb hb l' l' from HS5.out.below hb6)
                  clear hr6 hp6 hb6
                  go_wp2_with fail
                  go_roundg (xs.length - (i + 1))
                  case measure => have := HI.out; omega
                  case rel => exact ⟨i + 1, l', ⟨by have := HI.out; omega⟩, rfl, by go_num, HS6, HLL⟩
                | true =>
                  have hr0 : decide (r = 0) = false := by simpa using hok
                  have hr1 : (r == 0) = false := by simpa using hok
                  have HCN := HC0
                  have HLL := Aside0.mk (show l'.length = n by rw [HTK.out.len]; exact HLN.out)
                  have hgl := gaps_len l'
                  have hll2 : (listL l').length ≤ 60 := by have := HLL.out; omega
                  have hgn : ((gaps l').length : Int) = (n : Int) - (listL l').length := by have := HLL.out; omega
                  have HGN := Aside0.mk hgn
                  clear hgl hgn
                  go_wp2_with fail
                  first | rw [show (((listL l).length + ys.length : Nat) : Int) = ((listL l').length : Int) by have := HCN.out; omega] | rw [show ((listL l).length : Int) + (ys.length : Int) = ((listL l').length : Int) by have := HCN.out; omega]
                  refine (free_eq HGN.out wr HS3.out.pool).mono ?_
                  rintro e w5 ⟨rfl, b5⟩
                  have HS5 := Aside0.mk (HS3.out.below b5)
                  clear b5
                  go_wp2_with fail
                  refine (taken_any (w0 := w5) w5 HS5.out.pool (Below.refl _ _)).mono ?_
                  rintro e w6 ⟨v6, rfl, hr6, hp6, hb6⟩
                  obtain ⟨A6, c6, rfl⟩ := Kd.R_slice hr6
                  rw [List.length_map]
                  have HS6 := Aside0.mk (show Side w w6 pb sb hb l' l' from HS5.out.below hb6)
                  clear hr6 hp6 hb6
                  go_wp2_with fail
                  go_roundg (xs.length - (i + 1))
                  case measure => have := HI.out; omega
                  case rel => exact ⟨i + 1, l', ⟨by have := HI.out; omega⟩, rfl, by go_num, HS6, HLL⟩
            · have HCN := HC0
              have HLL := Aside0.mk (show l'.length = n by rw [HTK.out.len]; exact HLN.out)
              have hgl := gaps_len l'
              have hll2 : (listL l').length ≤ 60 := by have := HLL.out; omega
              have hgn : ((gaps l').length : Int) = (n : Int) - (listL l').length := by have := HLL.out; omega
              have HGN := Aside0.mk hgn
              clear hgl hgn
              go_wp2_with fail
              first | rw [show (((listL l).length + ys.length : Nat) : Int) = ((listL l').length : Int) by have := HCN.out; omega] | rw [show ((listL l).length : Int) + (ys.length : Int) = ((listL l').length : Int) by have := HCN.out; omega]
              refine (free_eq HGN.out wr HS3.out.pool).mono ?_
              rintro e w5 ⟨rfl, b5⟩
              have HS5 := Aside0.mk (HS3.out.below b5)
              clear b5
              go_wp2_with fail
              refine (taken_any (w0 := w5) w5 HS5.out.pool (Below.refl _ _)).mono ?_
              rintro e w6 ⟨v6, rfl, hr6, hp6, hb6⟩
              obtain ⟨A6, c6, rfl⟩ := Kd.R_slice hr6
              rw [List.length_map]
              have HS6 := Aside0.mk (show Side w w6 pb sb hb l' l' from HS5.out.below hb6)
              clear hr6 hp6 hb6
              go_wp2_with fail
              go_roundg (xs.length - (i + 1))
              case measure => have := HI.out; omega
              case rel => exact ⟨i + 1, l', ⟨by have := HI.out; omega⟩, rfl, by go_num, HS6, HLL⟩
      · go_wp2_with fail
        refine (awake_any _).mono ?_
        rintro e w' ⟨rfl, hb⟩
        go_wp2_with fail
        go_ret
        exact ⟨rfl, HSD.out.bel.trans (hb.mono HSD.out.bel.size)⟩
theorem apart_walk (a0 : Int) (A1 : Option Addr) (c1 : Nat) (xs : List Int) (A2 : Option Addr) (c2 : Nat) (bs : List Bool) (w : World) (hi : inI64 a0) (hC1 : Kd.C (Kd.int .i64) w A1 xs.length xs) (hc1 : xs.length ≤ c1) (hg : ∀ x ∈ xs, inI64 x) (hC2 : Kd.C Kd.bool w A2 bs.length bs) (hc2 : bs.length ≤ c2) :
    Calls Try.prog 4 #[.int .i64 a0, .slice A1 xs.length c1, .slice A2 bs.length c2] w fun e w' => e = .returned (.bool true) ∧ Below w.heap.size w w' := by
  by_cases h0 : a0 < 0
  · exact apart_no a0 A1 xs.length c1 A2 bs.length c2 w hi h0
  · exact apart_yes a0 A1 c1 xs A2 c2 bs w hi (by omega) hC1 hc1 hg hC2 hc2
end Bits
end Go.Proofs.Ythmdpmpnlphfdaa
