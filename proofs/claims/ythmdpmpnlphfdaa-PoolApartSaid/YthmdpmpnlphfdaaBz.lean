/- Sets of bits: contracts, fourth part. -/
import Derived.Test.YthmdpmpnlphfdaaBy
import Derived.Test.YthmdpmpnlphfdaaWWords
import Derived.Test.YthmdpmpnlphfdaaWLast
import Derived.Test.YthmdpmpnlphfdaaWMore
import Derived.Below
import Derived.Deep.MidRow
import Derived.Deep.WholeRow
import Derived.Great.BuildSlice
import Derived.Lib.Hide
import Derived.OwnWalk
import Derived.WalkKit
import Derived.KernelRfl
import Derived.RowKit3
import Derived.Deep.LoopGhost
import Derived.Deep.QuietTactic
import Derived.BigQuiet
import Derived.WideLaws
import Derived.Outline
import Derived.Deep.DeepCutAuto
import Derived.Deep.CutBlock
import Derived.WalkSpells
import Derived.RegionTactic
import Derived.BigRegion
import Derived.WalkLawsBesides
namespace Go.Proofs.Ythmdpmpnlphfdaa
open Go.RowKit Go.Proofs.YthmdpmpnlphfdaaW.PrintWords Go.Proofs.YthmdpmpnlphfdaaW.PrintLast Go.Proofs.YthmdpmpnlphfdaaW.PrintMore
namespace Bits
open Go.Bits
theorem infoInt : (Try.prog.info? 3).map (fun i => (i.zero, i.size, i.bytes)) = some (some (.int .i64 0), 1, 8) := by kernel_rfl
theorem list_any (b : Nat) (l : List Bool) (w : World) (h : At w b l) (hl : l.length ≤ 4096) :
    Calls Try.prog 32 #[.pointer (some ⟨b, 0, none⟩)] w fun e w' => ∃ v, e = .returned v ∧ Kd.R (Kd.int .i64) 3 w' w.heap.size (fun _ => True) v (listL l) ∧ Below w.heap.size w w' := by
  have HAt := Lib.hid h
  clear h
  go_enter Try.func32, Try.ntmps32
  go_wp2_with fail
  refine (next_any b l 0 _ HAt.out).mono ?_
  rintro e w' ⟨rfl, rfl⟩
  go_wp2_with fail
  have HB := Aside0.mk (Below.refl w.heap.size w)
  go_loopg [3, 4] (l.length + 1) (fun g v3 v4 wr => ∃ (p : Nat) (xs : List Int), v4 = .int .i64 (firstAt l true p) ∧ Aside0 (p + g = l.length + 1) ∧ Aside0 (xs.length ≤ p) ∧ Aside0 (xs ++ listAt l true p = listL l) ∧ Aside0 (Kd.R (Kd.int .i64) 3 wr w.heap.size (fun _ => True) v3 xs) ∧ Aside0 (Below w.heap.size w wr))
  case atStart => exact ⟨0, [], rfl, ⟨by omega⟩, ⟨Nat.le_refl _⟩, ⟨rfl⟩, ⟨Kd.R_nil _ _ _ _ _⟩, HB⟩
  case round =>
    obtain ⟨p, xs, rfl, HP, HX, HL, HR, HB⟩ := hrel
    have hbd := first_bd l true p
    have HLF := list_first l true p
    obtain ⟨q, hq⟩ : ∃ q, q = firstAt l true p := ⟨_, rfl⟩
    rw [← hq] at hbd HLF
    have HQ := Aside0.mk hq
    by_cases hq0 : q = -1
    · rw [← hq]
      rw [if_pos hq0] at HLF
      clear hq
      go_wp2
      go_ret
      exact ⟨u3, rfl, by have := HL.out; rw [HLF, List.append_nil] at this; rw [← this]; exact HR.out, HB.out⟩
    · rw [if_neg hq0] at HLF
      have hq1 : 0 ≤ q := by omega
      have hq2 : (p : Int) ≤ q := by omega
      have hq3 : q < l.length := hbd.2.1
      rw [← hq]
      have HLF' := Aside0.mk HLF
      have LM : Aside0 (xs.length < 17592186044416) := ⟨by have := HX.out; omega⟩
      clear hq hbd hq0 HLF
      go_wp2_with (first
        | ((with_reducible refine gate_builtin (b := .append) (xs := #[.tmp 13, .tmp 15]) rfl ?_); at_builtin; refine Kd.R_append (Kd.int .i64) (w0 := w) w.heap.size rfl (.tmp 13) (.tmp 15) 36 3 (.int .i64 0) 8 rfl Try.underlying36 infoInt rfl (by decide) (by omega) u3 xs q [.int .i64 q] (fun _ => True) (fun _ => False) rfl rfl ?aP (fun _ hk => hk.elim) ?aF ?aO ?aB ?aS ?aL ?_; (case aP => exact rfl); (case aB => exact (by repeat (first | (with_reducible first | exact HB.out | apply below_alloc | apply pw_below_drewN | apply below_drew1) | exact HB.out))); (case aF => exact (fun _ _ => trivial)); (case aO => exact (by (with_reducible repeat (first | apply Kd.R_alloc | apply Kd.R_drewN | apply Kd.R_drew)); exact HR.out)); (case aS => exact (below_size (by repeat (first | (with_reducible first | exact HB.out | apply below_alloc | apply pw_below_drewN | apply below_drew1) | exact HB.out)))); (case aL => have := LM.out; omega); intro v131 w9 ho hb hg hat; have n1_ := Aside0.mk (hb); have n2_ := Aside0.mk (ho); clear HB; clear HR; have HB := n1_; have HR := n2_; clear n1_ n2_; clear ho hb hg hat)
        | (go_at_call 41; refine (next_any b l (q + 1) _ (HAt.out.below HB.out)).mono ?_; rintro e w' ⟨rfl, rfl⟩))
      go_roundg (l.length - q.toNat)
      case measure => have := HP.out; omega
      case rel => exact ⟨q.toNat + 1, xs ++ [q], by unfold firstL; rw [show (q + 1).toNat = q.toNat + 1 by omega], ⟨by omega⟩, ⟨by have := HX.out; rw [List.length_append]; simp; omega⟩, ⟨by have := HL.out; rw [HLF'.out] at this; rw [List.append_assoc]; exact this⟩, HR, HB⟩
end Bits
end Go.Proofs.Ythmdpmpnlphfdaa
