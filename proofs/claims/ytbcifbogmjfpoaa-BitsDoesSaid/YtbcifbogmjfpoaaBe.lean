/- Sets of bits: contracts, tenth part. -/
import Derived.Test.YtbcifbogmjfpoaaBt
import Derived.Test.YtbcifbogmjfpoaaBd
import Derived.Test.YtbcifbogmjfpoaaPBitsClonesx
import Derived.Test.YtbcifbogmjfpoaaPBitsDoesx
import Derived.Below
import Derived.Test.YtbcifbogmjfpoaaReg
import Derived.Deep.MidRow
import Derived.Deep.WholeRow
import Derived.Great.BuildSlice
import Derived.Lib.Hide
import Derived.OwnWalk
import Derived.WalkKit
import Derived.KernelRfl
import Derived.RowKit3
import Derived.Deep.LoopGhost
import Derived.Deep.QuietTactic
import Derived.BigQuiet
import Derived.WideLaws
import Derived.Outline
import Derived.Deep.DeepCutAuto
import Derived.Deep.CutBlock
import Derived.WalkSpells
import Derived.RegionTactic
import Derived.BigRegion
import Derived.WalkLawsBesides
namespace Go.Proofs.Ytbcifbogmjfpoaa
set_option linter.unusedVariables false
set_option linter.unusedSimpArgs false
open Go.RowKit Go.Proofs.YtbcifbogmjfpoaaW.PrintWords Go.Proofs.YtbcifbogmjfpoaaW.PrintLast Go.Proofs.YtbcifbogmjfpoaaW.PrintMore
namespace Bits
open Go.Bits
open PBitsDoes
open PBitsClones (S42 k42 at_T42 rd_T42)
theorem refof_no' (n : Int) (w : World) (h : n < 0 ∨ 4096 < n) :
    Calls Try.prog 23 #[.int .i64 n] w fun e w' => ∃ A c, e = .returned (.tuple #[.agg #[.slice A 0 c], .int .i64 1]) ∧ Below w.heap.size w w' := by
  refine (chantryref05_Of.calls n _ _ w (ref_of_no n h)).mono ?_
  rintro e w' ⟨v, rfl, hr, hb⟩
  obtain ⟨A, c, rfl⟩ := Kd.R_slice hr
  exact ⟨A, c, rfl, hb⟩
set_option maxHeartbeats 8000000 in
set_option maxRecDepth 100000 in
theorem does_large (n : Nat) (A : Option Addr) (c : Nat) (m : Nat) (w : World) (hn : n ≤ 4096) (hx : 60 < m) :
    Calls Try.prog 6 #[.int .i64 n, .slice A m c] w fun e w' => e = .returned (.bool true) ∧ Below w.heap.size w w' := by
  go_enter Try.func6, Try.ntmps6
  go_wp2_with fail
  refine (of_at n _ hn).mono ?_
  rintro e w1 ⟨rfl, a1, b1⟩
  have HB := Lib.hid b1
  clear a1 b1
  go_wp2_with fail
  refine (refof_yes n _ hn).mono ?_
  rintro e w2 ⟨v, rfl, hr, b2⟩
  obtain ⟨AX0, cX0, rfl⟩ := Kd.R_slice hr
  have HB2 := Lib.hid b2
  clear hr b2
  go_wp2_with fail
  refine (awake_any _).mono ?_
  rintro e w' ⟨rfl, hb⟩
  go_wp2_with fail
  go_ret
  have h2 : Below w.heap.size w w2 := HB.out.trans (HB2.out.mono HB.out.size)
  have h3 : Below w.heap.size w (w2.alloc (.cells #[.slice AX0 n cX0] 38)) := h2.alloc h2.size _
  exact ⟨rfl, h3.trans (hb.mono h3.size)⟩
set_option maxHeartbeats 8000000 in
set_option maxRecDepth 100000 in
theorem does_out (n : Int) (A : Option Addr) (c : Nat) (m : Nat) (w : World) (hn : n < 0 ∨ 4096 < n) :
    Calls Try.prog 6 #[.int .i64 n, .slice A m c] w fun e w' => e = .returned (.bool true) ∧ Below w.heap.size w w' := by
  by_cases hm : 60 < m
  · go_enter Try.func6, Try.ntmps6
    go_wp2_with fail
    refine (of_no n _ hn).mono ?_
    rintro e w1 ⟨rfl, rfl⟩
    go_wp2_with fail
    refine (refof_no' n _ hn).mono ?_
    rintro e w2 ⟨AX0, cX0, rfl, b2⟩
    have HB2 := Lib.hid b2
    clear b2
    go_wp2_with fail
    refine (awake_any _).mono ?_
    rintro e w' ⟨rfl, hb⟩
    go_wp2_with fail
    go_ret
    have h3 := HB2.out.alloc HB2.out.size (.cells #[.slice AX0 0 cX0] 38)
    exact ⟨rfl, h3.trans (hb.mono h3.size)⟩
  · go_enter Try.func6, Try.ntmps6
    go_wp2_with fail
    refine (of_no n _ hn).mono ?_
    rintro e w1 ⟨rfl, rfl⟩
    go_wp2_with fail
    refine (refof_no' n _ hn).mono ?_
    rintro e w2 ⟨AX0, cX0, rfl, b2⟩
    have HB2 := Lib.hid b2
    clear b2
    go_wp2_with fail
    go_loopg [9, 10, 11, 12, 66, 85] 0 (fun g v9 v10 v11 v12 v66 v85 wr => v9 = .int .i64 0 ∧ wr = w2.alloc (.cells #[.slice AX0 0 cX0] 38))
    case atStart => exact ⟨rfl, rfl⟩
    case round =>
      obtain ⟨rfl, rfl⟩ := hrel
      by_cases hm0 : 0 < m
      · go_wp2_with fail
        refine (awake_any _).mono ?_
        rintro e w' ⟨rfl, hb⟩
        go_wp2_with fail
        go_ret
        have h3 := HB2.out.alloc HB2.out.size (.cells #[.slice AX0 0 cX0] 38)
        exact ⟨rfl, h3.trans (hb.mono h3.size)⟩
      · go_wp2_with fail
        refine (awake_any _).mono ?_
        rintro e w' ⟨rfl, hb⟩
        go_wp2_with fail
        go_ret
        have h3 := HB2.out.alloc HB2.out.size (.cells #[.slice AX0 0 cX0] 38)
        exact ⟨rfl, h3.trans (hb.mono h3.size)⟩
theorem does_walk (n : Int) (A : Option Addr) (c : Nat) (ys : List S42) (w : World) (hr : Kd.C k42 w A ys.length ys) (hc : ys.length ≤ c) :
    Calls Try.prog 6 #[.int .i64 n, .slice A ys.length c] w fun e w' => e = .returned (.bool true) ∧ Below w.heap.size w w' := by
  by_cases hn : 0 ≤ n ∧ n ≤ 4096
  · obtain ⟨k, rfl⟩ := Int.eq_ofNat_of_zero_le hn.1
    by_cases hx : ys.length ≤ 60
    · exact does_main k A c ys w (by omega) hx hr hc
    · exact does_large k A c ys.length w (by omega) (by omega)
  · exact does_out n A c ys.length w (by omega)
end Bits
end Go.Proofs.Ytbcifbogmjfpoaa
