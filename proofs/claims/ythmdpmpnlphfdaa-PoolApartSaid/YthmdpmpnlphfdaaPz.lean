/- The pool in memory: contracts, fourth part. -/
import Derived.Test.YthmdpmpnlphfdaaPx
import Derived.Test.YthmdpmpnlphfdaaReg
import Derived.Below
import Derived.Deep.MidRow
import Derived.Deep.WholeRow
import Derived.Great.BuildSlice
import Derived.Lib.Hide
import Derived.OwnWalk
import Derived.WalkKit
import Derived.KernelRfl
import Derived.RowKit3
import Derived.Deep.LoopGhost
import Derived.Deep.QuietTactic
import Derived.BigQuiet
import Derived.WideLaws
import Derived.Outline
import Derived.Deep.DeepCutAuto
import Derived.Deep.CutBlock
import Derived.WalkSpells
import Derived.RegionTactic
import Derived.BigRegion
import Derived.WalkLawsBesides
namespace Go.Proofs.Ythmdpmpnlphfdaa
set_option linter.unusedVariables false
set_option linter.unusedSimpArgs false
open Go.RowKit Go.Proofs.YthmdpmpnlphfdaaW.PrintWords Go.Proofs.YthmdpmpnlphfdaaW.PrintLast Go.Proofs.YthmdpmpnlphfdaaW.PrintMore
namespace Bits
open Go.Bits Go.Pool
set_option maxRecDepth 100000 in
theorem taken_nil (w : World) : Calls Try.prog 15 #[.pointer none] w fun e w' => e = .returned (.slice none 0 0) ∧ w = w' := by
  go_enter Try.func15, Try.ntmps15
  go_wp2
  go_ret
  exact ⟨rfl, rfl⟩
theorem rd_take2 (xs : List Int) (i : Nat) (h : i < xs.length) : xs.take (i + 1) = xs.take i ++ [rd xs i] := by
  rw [List.take_add_one, List.getElem?_eq_getElem h]
  have : rd xs (i : Int) = xs[i] := by unfold rd; simp [h]
  rw [this]; rfl
set_option maxHeartbeats 8000000 in
set_option maxRecDepth 100000 in
theorem taken_any {w0 : World} {pb sb : Nat} {fr : Int} {l : List Bool} (w : World) (h : PAt w pb sb fr l) (hB : Below w0.heap.size w0 w) :
    Calls Try.prog 15 #[.pointer (some ⟨pb, 0, none⟩)] w fun e w' => ∃ v, e = .returned v ∧ Kd.R (Kd.int .i64) 3 w' w0.heap.size (fun k => w.heap.size ≤ k) v ((listL l).map (fr + ·)) ∧ PAt w' pb sb fr l ∧ Below w0.heap.size w0 w' := by
  have HP := Aside0.mk h
  have HB := Aside0.mk hB
  have c0 := h.c0
  have hlen := h.len
  have hlow := h.low
  have hhigh := h.high
  have HLL := Aside0.mk (gaps_len l)
  have HLI := Aside0.mk (list_in (l := l) (b := true) _ 0 rfl)
  clear h hB
  go_enter Try.func15, Try.ntmps15
  go_wp2_with fail
  refine (list_any sb l _ HP.out.set (by omega)).mono ?_
  rintro e w1 ⟨u, rfl, hru, b⟩
  replace HP := Aside0.mk (HP.out.below b)
  replace HB := Aside0.mk (HB.out.trans (b.mono HB.out.size))
  have HO := Aside0.mk (Only.of_below (b := sb) b)
  obtain ⟨AU, cU, rfl, hcU, hCU⟩ := Kd.R_reads hru
  have HRU := Aside0.mk (Kd.R_tight rfl hru)
  clear b hru hCU c0
  obtain ⟨ys, hys⟩ : ∃ ys, ys = listL l := ⟨_, rfl⟩
  rw [← hys] at HRU HLL hcU ⊢
  have HYS := Aside0.mk hys
  clear hys
  have hyl : ys.length ≤ 1024 := by have := HLL.out; omega
  go_wp2_with fail
  go_loopg [3, 5, 16] ys.length (fun g v3 v5 v16 wr => ∃ (i : Nat), v16 = .int .i64 i ∧ Aside0 (i + g = ys.length) ∧ Aside0 (Kd.R (Kd.int .i64) 3 wr w0.heap.size (fun k => w.heap.size ≤ k ∧ some k ≠ (Value.slice AU ys.length cU).ownBlock) v3 ((ys.take i).map (fr + ·))) ∧ Aside0 (Kd.R (Kd.int .i64) 3 wr w.heap.size (fun k => some k = (Value.slice AU ys.length cU).ownBlock) (.slice AU ys.length cU) ys) ∧ Aside0 (PAt wr pb sb fr l) ∧ Aside0 (Below w0.heap.size w0 wr) ∧ Aside0 (Only sb w wr))
  case atStart => exact ⟨0, rfl, ⟨by omega⟩, ⟨Kd.R_nil _ _ _ _ _⟩, HRU, HP, HB, HO⟩
  case round =>
    clear HRU HP HB HO
    obtain ⟨i, rfl, HI, HR, HRU, HP, HB, HO⟩ := hrel
    by_cases hi : i < ys.length
    · have hC := (Kd.R_reads' HRU.out).2.2
      obtain ⟨ad, had, hcell⟩ := Kd.at_int hC i (by omega) (by omega)
      have HTK := Aside0.mk (rd_take2 ys i hi)
      have hin := HLI.out (rd ys i) (by
        have : rd ys (i : Int) = ys[i] := by unfold rd; simp [hi]
        rw [this]
        show ys[i] ∈ listL l
        rw [← HYS.out]
        exact List.getElem_mem hi)
      obtain ⟨y, hy⟩ : ∃ y, y = rd ys i := ⟨_, rfl⟩
      rw [← hy] at hin HTK
      rw [← hy, Int.toNat_natCast] at hcell
      have hy0 : 0 ≤ y := hin.2.1.1
      have hy1 : y < l.length := hin.2.1.2
      clear hy hC hin
      cases had
      have c1 := HP.out.c1
      go_wp2_with ((with_reducible refine gate_builtin (b := .append) (xs := #[.tmp 20, .tmp 27]) rfl ?_); at_builtin; refine Hid.out ?_)
      refine Lib.hid ?_
      refine Kd.R_append (Kd.int .i64) (w0 := w0) w0.heap.size rfl (.tmp 20) (.tmp 27) 36 3 (.int .i64 0) 8 rfl Try.underlying36 infoInt rfl (by decide) (by omega) u3 ((ys.take i).map (fr + ·)) (fr + y) [.int .i64 (fr + y)] (fun k => w.heap.size ≤ k ∧ some k ≠ (Value.slice (some ad) ys.length cU).ownBlock) (fun _ => False) rfl rfl ?aP (fun _ hk => hk.elim) ?aF ?aO ?aB ?aS ?aL ?_
      case aP => exact rfl
      case aB => exact (by repeat (first | (with_reducible first | exact HB.out | apply below_alloc | apply pw_below_drewN | apply below_drew1) | exact HB.out))
      case aF => exact (fun k hk => ⟨Nat.le_trans HO.out.size hk, fun e => absurd (Kd.R_lt HRU.out k e.symm) (Nat.not_lt.2 hk)⟩)
      case aO => exact (by (with_reducible repeat (first | apply Kd.R_alloc | apply Kd.R_drewN | apply Kd.R_drew)); exact HR.out)
      case aS => exact (below_size (by repeat (first | (with_reducible first | exact HB.out | apply below_alloc | apply pw_below_drewN | apply below_drew1) | exact HB.out)))
      case aL => have hmn : (List.map (fr + ·) (List.take i ys)).length ≤ 1024 := (by rw [List.length_map, List.length_take]; omega); omega
      intro v131 w9 ho hb hg hat
      have hR' : Kd.R (Kd.int .i64) 3 wr w0.heap.size (fun k => w.heap.size ≤ k) u3 ((ys.take i).map (fr + ·)) := Kd.R_mono HR.out (fun _ hk => hk.1)
      have n1_ := Aside0.mk hb
      have n2_ := Aside0.mk ho
      have n3_ := Aside0.mk (PAt.appended HP.out hR' hg)
      have n4_ := Aside0.mk (Only.appended HO.out hR' hg)
      have n5_ := Aside0.mk (Kd.R_grown HRU.out hg (fun k hk e => (HR.out.1 k e.symm).2 hk))
      clear HB HR HP HO HRU hR'
      have HB := n1_
      have HR := n2_
      have HP := n3_
      have HO := n4_
      have HRU := n5_
      clear n1_ n2_ n3_ n4_ n5_
      clear ho hb hg hat
      go_wp2_with fail
      go_roundg (gk - 1)
      case measure => have := HI.out; omega
      case rel => exact ⟨i + 1, by go_num, ⟨by have := HI.out; omega⟩, ⟨by rw [HTK.out, List.map_append]; exact HR.out⟩, HRU, HP, HB, HO⟩
    · go_wp2_with fail
      go_ret
      have hr := HR.out
      rw [List.take_of_length_le (by omega)] at hr
      have hr2 := Kd.R_mono (ok' := fun k => w.heap.size ≤ k) hr (fun _ hk => hk.1)
      rw [HYS.out] at hr2
      exact ⟨u3, rfl, hr2, HP.out, HB.out⟩
end Bits
end Go.Proofs.Ythmdpmpnlphfdaa
