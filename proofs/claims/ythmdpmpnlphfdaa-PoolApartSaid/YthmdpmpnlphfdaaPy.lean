/- The pool in memory: contracts, third part. -/
import Derived.Test.YthmdpmpnlphfdaaPx
import Derived.Test.YthmdpmpnlphfdaaReg
import Derived.Below
import Derived.Deep.MidRow
import Derived.Deep.WholeRow
import Derived.Great.BuildSlice
import Derived.Lib.Hide
import Derived.OwnWalk
import Derived.WalkKit
import Derived.KernelRfl
import Derived.RowKit3
import Derived.Deep.LoopGhost
import Derived.Deep.QuietTactic
import Derived.BigQuiet
import Derived.WideLaws
import Derived.Outline
import Derived.Deep.DeepCutAuto
import Derived.Deep.CutBlock
import Derived.WalkSpells
import Derived.RegionTactic
import Derived.BigRegion
import Derived.WalkLawsBesides
namespace Go.Proofs.Ythmdpmpnlphfdaa
set_option linter.unusedVariables false
set_option linter.unusedSimpArgs false
open Go.RowKit Go.Proofs.YthmdpmpnlphfdaaW.PrintWords Go.Proofs.YthmdpmpnlphfdaaW.PrintLast Go.Proofs.YthmdpmpnlphfdaaW.PrintMore
namespace Bits
open Go.Bits Go.Pool
theorem getD_eq_set (l : List Bool) (i : Nat) (b : Bool) (h : i < l.length) (hb : l.getD i false = b) : l.set i b = l :=
  ext_get (by simp) fun j _ => by
    rw [Pool.getD_set l i j b h]
    split
    · rename_i e; rw [← e]; exact hb.symm
    · rfl
theorem addL_set {l : List Bool} {k : Int} (h : In l k) : (addL l k).1 = l.set k.toNat true := by
  unfold In at h
  unfold addL
  rw [if_neg (by omega)]
  split
  · rename_i hb; exact (getD_eq_set l _ _ (by omega) hb).symm
  · rfl
theorem dropL_set {l : List Bool} {k : Int} (h : In l k) : (dropL l k).1 = l.set k.toNat false := by
  unfold In at h
  unfold dropL
  rw [if_neg (by omega)]
  split
  · rename_i hb; exact (getD_eq_set l _ _ (by omega) hb).symm
  · rfl
theorem Pool.rd_take (xs : List Int) (i : Nat) (h : i < xs.length) : xs.take (i + 1) = xs.take i ++ [rd xs i] := by
  rw [List.take_add_one, List.getElem?_eq_getElem h]
  have : rd xs (i : Int) = xs[i] := by unfold rd; simp [h]
  rw [this]; rfl
theorem Pool.rd_mem (xs : List Int) (i : Nat) (h : i < xs.length) : rd xs i ∈ xs := by
  have : rd xs (i : Int) = xs[i] := by unfold rd; simp [h]
  rw [this]; exact List.getElem_mem h
/-- A place of those before: turned; another one: as it was. -/
theorem lk_get {l : List Bool} {xs : List Int} {fr : Int} {b : Bool} {x : Int} (h : ∀ y ∈ xs, In l (y - fr)) (hx : In l (x - fr)) : (setAll l (xs.map (· - fr)) b).getD (x - fr).toNat false = if x ∈ xs then b else l.getD (x - fr).toNat false := by
  unfold In at hx
  rw [setAll_get b _ l _ (fun y hy => by obtain ⟨z, hz, rfl⟩ := List.mem_map.1 hy; exact h z hz), Int.toNat_of_nonneg hx.1]
  have : (x - fr ∈ xs.map (· - fr)) ↔ x ∈ xs := by
    rw [List.mem_map]
    constructor
    · rintro ⟨z, hz, e⟩
      have : z = x := by omega
      rwa [← this]
    · exact fun hm => ⟨x, hm, rfl⟩
  by_cases hm : x ∈ xs
  · rw [if_pos (this.2 hm), if_pos hm]
  · rw [if_neg (fun e => hm (this.1 e)), if_neg hm]
theorem back_all {l : List Bool} {xs : List Int} {fr : Int} {was nb : Bool} (hnb : nb = !was) (h : ∀ y ∈ xs, In l (y - fr)) (hw : ∀ y ∈ xs, l.getD (y - fr).toNat false = was) : setAll (setAll l (xs.map (· - fr)) nb) (xs.map (· - fr)) was = l := by
  subst hnb
  exact setAll_back was l _ (fun y hy => by obtain ⟨z, hz, rfl⟩ := List.mem_map.1 hy; exact h z hz) (fun y hy => by obtain ⟨z, hz, rfl⟩ := List.mem_map.1 hy; exact hw z hz)
set_option maxHeartbeats 8000000 in
set_option maxRecDepth 100000 in
theorem turn_give {pb sb : Nat} {fr : Int} {l : List Bool} (A : Option Addr) (c : Nat) (xs : List Int) (w : World) (h : PAt w pb sb fr l) (hrow : ∀ W, Only sb w W → Kd.C (Kd.int .i64) W A xs.length xs) (hc : xs.length ≤ c) (hxs : ∀ x ∈ xs, x ≤ 9223372036854775807) :
    Calls Try.prog 29 #[.pointer (some ⟨pb, 0, none⟩), .slice A xs.length c, .func (Fn.func 30) #[.pointer (some ⟨sb, 0, none⟩)] #[], .func (Fn.func 28) #[.pointer (some ⟨sb, 0, none⟩)] #[]] w fun e w' => e = .returned (.int .i64 (turnAll fr l xs true 6).2) ∧ PAt w' pb sb fr (turnAll fr l xs true 6).1 ∧ Only sb w w' := by
  have HP := Aside0.mk h
  have HROW := Aside0.mk hrow
  have HXS := Aside0.mk hxs
  have hlow := h.low
  have hhigh := h.high
  have hxl : xs.length ≤ 9223372036854775807 := (hrow w (.refl _ _)).2.1
  clear h hrow hxs
  go_enter Try.func29, Try.ntmps29
  go_wp2_with fail
  go_loopg [18, 10] xs.length (fun g v18 v10 wr => ∃ (i : Nat), v18 = .int .i64 i ∧ Aside0 (i + g = xs.length) ∧ Aside0 (∀ x ∈ xs.take i, In l (x - fr)) ∧ Aside0 (PAt wr pb sb fr l) ∧ Aside0 (Only sb w wr))
  case atStart => exact ⟨0, rfl, ⟨by omega⟩, ⟨by simp⟩, HP, ⟨.refl _ _⟩⟩
  case round =>
    clear HP
    obtain ⟨i, rfl, HI, HIN, HP, HO⟩ := hrel
    have c1 := HP.out.c1
    have c2 := HP.out.c2
    by_cases hi : i < xs.length
    · obtain ⟨ad, had, hcell⟩ := Kd.at_int (HROW.out wr HO.out) i (by omega) (by omega)
      have HTK := Aside0.mk (Pool.rd_take xs i hi)
      have HMEM := Aside0.mk (Pool.rd_mem xs i hi)
      have hx1 := HXS.out _ HMEM.out
      obtain ⟨x, hx⟩ : ∃ x, x = rd xs i := ⟨_, rfl⟩
      rw [← hx] at HTK HMEM hx1
      rw [← hx, Int.toNat_natCast] at hcell
      clear hx
      subst had
      by_cases hx0 : fr ≤ x
      · have d0 : decide (x < fr) = false := decide_eq_false (by omega)
        by_cases hx2 : x - fr < l.length
        · go_wp2_with fail
          refine Go.Reg.region (fun y => y = wr.drew) [.s, .s, .s, .s, .s, .s, .s, .s, .s, .s, .s, .s, .s, .s, .s, .s, .s, .s, .s] (by kernel_rfl) (by kernel_rfl) rfl (fun ne => ?_)
          have h1 : ∀ m : Go.Reg.In (fun y => y = wr.drew), m.w.cell? ⟨pb, 1, none⟩ = some (.int .i64 fr) := fun m => by rw [m.h]; exact c1
          have h2 : ∀ m : Go.Reg.In (fun y => y = wr.drew), m.w.cell? ⟨pb, 2, none⟩ = some (.int .i64 l.length) := fun m => by rw [m.h]; exact c2
          refine Go.Reg.lex_q 19 _ _ _ _ (by rfl) ?_; simp only [List.take_succ_cons, List.take_zero, List.drop_succ_cons, List.drop_zero]; (repeat (go_big_quiet_step (rfl))); refine wpQuiet_nil ?_
          refine Go.Reg.lex_nil ?_
          go_wp2_with fail
          go_roundg (gk - 1)
          case measure => have := HI.out; omega
          case rel => exact ⟨i + 1, by go_num, ⟨by have := HI.out; omega⟩, ⟨fun y hy => by
            rw [HTK.out] at hy
            rcases List.mem_append.1 hy with hy | hy
            · exact HIN.out y hy
            · rw [List.mem_singleton.1 hy]; exact ⟨by omega, hx2⟩⟩, ⟨HP.out.drew⟩, ⟨HO.out.drew⟩⟩
        · go_wp2_with fail
          refine Go.Reg.region (fun y => y = wr.drew) [.s, .s, .s, .s, .s, .s, .s, .s, .s, .s, .s, .s, .s, .s, .s, .s, .s, .s, .s] (by kernel_rfl) (by kernel_rfl) rfl (fun ne => ?_)
          have h1 : ∀ m : Go.Reg.In (fun y => y = wr.drew), m.w.cell? ⟨pb, 1, none⟩ = some (.int .i64 fr) := fun m => by rw [m.h]; exact c1
          have h2 : ∀ m : Go.Reg.In (fun y => y = wr.drew), m.w.cell? ⟨pb, 2, none⟩ = some (.int .i64 l.length) := fun m => by rw [m.h]; exact c2
          refine Go.Reg.lex_q 19 _ _ _ _ (by rfl) ?_; simp only [List.take_succ_cons, List.take_zero, List.drop_succ_cons, List.drop_zero]; (repeat (go_big_quiet_step (rfl))); refine wpQuiet_nil ?_
          refine Go.Reg.lex_nil ?_
          go_wp2_with fail
          go_ret
          have hex : ∃ x ∈ xs, ¬ In l (x - fr) := ⟨x, HMEM.out, fun hin => by have := hin.2; omega⟩
          unfold turnAll
          rw [if_pos hex]
          exact ⟨rfl, HP.out.drew, HO.out.drew⟩
      · have d0 : decide (x < fr) = true := decide_eq_true (by omega)
        go_wp2_with fail
        refine Go.Reg.region (fun y => y = wr.drew) [.s, .s, .s, .s, .s, .s, .s, .s, .s, .s, .s, .s, .s, .s, .s, .s, .s, .s, .s] (by kernel_rfl) (by kernel_rfl) rfl (fun ne => ?_)
        have h1 : ∀ m : Go.Reg.In (fun y => y = wr.drew), m.w.cell? ⟨pb, 1, none⟩ = some (.int .i64 fr) := fun m => by rw [m.h]; exact c1
        refine Go.Reg.lex_q 19 _ _ _ _ (by rfl) ?_; simp only [List.take_succ_cons, List.take_zero, List.drop_succ_cons, List.drop_zero]; (repeat (go_big_quiet_step (rfl))); refine wpQuiet_nil ?_
        refine Go.Reg.lex_nil ?_
        go_wp2_with fail
        go_ret
        have hex : ∃ x ∈ xs, ¬ In l (x - fr) := ⟨x, HMEM.out, fun hin => by have := hin.1; omega⟩
        unfold turnAll
        rw [if_pos hex]
        exact ⟨rfl, HP.out.drew, HO.out.drew⟩
    · have HALL : Aside0 (∀ x ∈ xs, In l (x - fr)) := ⟨by have := HIN.out; rwa [List.take_of_length_le (by omega)] at this⟩
      clear HIN HI c1 c2
      go_wp2_with fail
      go_loopg [44, 11, 12, 13] xs.length (fun g v44 v11 v12 v13 wr => ∃ (i : Nat), v44 = .int .i64 i ∧ Aside0 (i + g = xs.length) ∧ Aside0 ((∀ x ∈ xs.take i, l.getD (x - fr).toNat false = true) ∧ (xs.take i).Nodup) ∧ Aside0 (PAt wr pb sb fr (setAll l ((xs.take i).map (· - fr)) false)) ∧ Aside0 (Only sb w wr))
      case atStart => exact ⟨0, rfl, ⟨by omega⟩, ⟨by simp⟩, HP, HO⟩
      case round =>
        clear HP HO
        obtain ⟨i, rfl, HI, HG, HP, HO⟩ := hrel
        by_cases hi : i < xs.length
        · obtain ⟨ad, had, hcell⟩ := Kd.at_int (HROW.out wr HO.out) i (by omega) (by omega)
          have HTK := Aside0.mk (Pool.rd_take xs i hi)
          have HMEM := Aside0.mk (Pool.rd_mem xs i hi)
          obtain ⟨x, hx⟩ : ∃ x, x = rd xs i := ⟨_, rfl⟩
          rw [← hx] at HTK HMEM
          rw [← hx, Int.toNat_natCast] at hcell
          clear hx
          subst had
          have hxin := HALL.out x HMEM.out
          have HXIN := Aside0.mk hxin
          have hxi1 : 0 ≤ x - fr := hxin.1
          have hxi2 : x - fr < l.length := hxin.2
          have c1 := HP.out.c1
          have HTIN : Aside0 (∀ y ∈ xs.take i, In l (y - fr)) := ⟨fun y hy => HALL.out y (List.mem_of_mem_take hy)⟩
          have HGET := Aside0.mk (lk_get (b := false) HTIN.out hxin)
          clear hxin
          by_cases hok : l.getD (x - fr).toNat false = true ∧ x ∉ xs.take i
          · have hdo : dropL (setAll l ((xs.take i).map (· - fr)) false) (x - fr) = (setAll l ((xs.take (i + 1)).map (· - fr)) false, 0) := by
              have hg := HGET.out
              rw [if_neg hok.2, hok.1] at hg
              unfold dropL
              rw [if_neg (by rw [setAll_len]; omega), hg, if_neg (by decide), HTK.out, List.map_append, List.map_cons, List.map_nil, setAll_snoc]
            have HDO := Aside0.mk hdo
            have HG2 : Aside0 ((∀ y ∈ xs.take (i + 1), l.getD (y - fr).toNat false = true) ∧ (xs.take (i + 1)).Nodup) := ⟨by
              rw [HTK.out]
              refine ⟨fun y hy => ?_, ?_⟩
              · rcases List.mem_append.1 hy with hy | hy
                · exact HG.out.1 y hy
                · rw [List.mem_singleton.1 hy]; exact hok.1
              · rw [List.nodup_append]
                refine ⟨HG.out.2, by simp, fun a ha b hb => ?_⟩
                rw [List.mem_singleton.1 hb]
                rintro rfl
                exact hok.2 ha⟩
            clear hok hdo
            go_wp2_with fail
            refine (drop_any sb _ (x - fr) _ HP.out.set).mono ?_
            rw [HDO.out]
            rintro e w3 ⟨rfl, a, g⟩
            replace HO := Aside0.mk (HO.out.trans (.of_grown g))
            replace HP := Aside0.mk (HP.out.grown a (by rw [setAll_len, setAll_len]) g)
            clear a g
            go_wp2_with fail
            go_roundg (gk - 1)
            case measure => have := HI.out; omega
            case rel => exact ⟨i + 1, by go_num, ⟨by have := HI.out; omega⟩, HG2, HP, HO⟩
          · have hdo : dropL (setAll l ((xs.take i).map (· - fr)) false) (x - fr) = (setAll l ((xs.take i).map (· - fr)) false, 6) := by
              have hg := HGET.out
              have hg2 : (setAll l ((xs.take i).map (· - fr)) false).getD (x - fr).toNat false = false := by
                rw [hg]
                split
                · rfl
                · rename_i hn
                  cases hb : l.getD (x - fr).toNat false
                  · first | rfl | exact absurd ⟨hb, hn⟩ hok
                  · first | rfl | exact absurd ⟨hb, hn⟩ hok
              unfold dropL
              rw [if_neg (by rw [setAll_len]; omega), hg2, if_pos rfl]
            have HDO := Aside0.mk hdo
            have hbad : ¬ ((∀ y ∈ xs, l.getD (y - fr).toNat false = true) ∧ xs.Nodup) := fun hh => hok ⟨hh.1 x HMEM.out, fun hm => by
              have h2 : (xs.take (i + 1)).Nodup := hh.2.sublist (List.take_sublist _ _)
              rw [HTK.out, List.nodup_append] at h2
              exact h2.2.2 x hm x (by simp) rfl⟩
            have HBAD := Aside0.mk hbad
            clear hok hdo hbad
            go_wp2_with fail
            refine (drop_any sb _ (x - fr) _ HP.out.set).mono ?_
            rw [HDO.out]
            rintro e w3 ⟨rfl, a, g⟩
            replace HO := Aside0.mk (HO.out.trans (.of_grown g))
            replace HP := Aside0.mk (HP.out.grown a rfl g)
            clear a g c1
            go_wp2_with fail
            go_loopg [63, 15] i (fun g v63 v15 wr => ∃ (j : Nat), v63 = .int .i64 j ∧ Aside0 (j + g = i) ∧ Aside0 (PAt wr pb sb fr (setAll (setAll l ((xs.take i).map (· - fr)) false) ((xs.take j).map (· - fr)) true)) ∧ Aside0 (Only sb w wr))
            case atStart => exact ⟨0, rfl, ⟨by omega⟩, HP, HO⟩
            case round =>
              clear HP HO
              obtain ⟨j, rfl, HJ, HP, HO⟩ := hrel
              by_cases hj : j < i
              · have hjl : j < xs.length := by omega
                obtain ⟨ad2, had2, hcell2⟩ := Kd.at_int (HROW.out _ HO.out) j (by omega) (by omega)
                have HTK2 := Aside0.mk (Pool.rd_take xs j hjl)
                have HMEM2 := Aside0.mk (Pool.rd_mem xs j hjl)
                obtain ⟨y, hy⟩ : ∃ y, y = rd xs j := ⟨_, rfl⟩
                rw [← hy] at HTK2 HMEM2
                rw [← hy, Int.toNat_natCast] at hcell2
                clear hy
                cases had2
                have hyin := HALL.out y HMEM2.out
                have hyi1 : 0 ≤ y - fr := hyin.1
                have hyi2 : y - fr < l.length := hyin.2
                have c1 := HP.out.c1
                have HUN : Aside0 ((addL (setAll (setAll l ((xs.take i).map (· - fr)) false) ((xs.take j).map (· - fr)) true) (y - fr)).1 = setAll (setAll l ((xs.take i).map (· - fr)) false) ((xs.take (j + 1)).map (· - fr)) true) := ⟨by
                  rw [addL_set ⟨hyi1, by rw [setAll_len, setAll_len]; exact hyi2⟩, HTK2.out, List.map_append, List.map_cons, List.map_nil, setAll_snoc]⟩
                clear hyin
                go_wp2_with fail
                refine (add_any sb _ (y - fr) _ HP.out.set).mono ?_
                rw [HUN.out]
                rintro e w4 ⟨rfl, a, g⟩
                replace HO := Aside0.mk (HO.out.trans (.of_grown g))
                replace HP := Aside0.mk (HP.out.grown a (by rw [setAll_len, setAll_len, setAll_len, setAll_len]) g)
                clear a g
                go_wp2_with fail
                go_roundg (gk - 1)
                case measure => have := HJ.out; omega
                case rel => exact ⟨j + 1, by go_num, ⟨by have := HJ.out; omega⟩, HP, HO⟩
              · go_wp2_with fail
                go_ret
                have hji : j = i := by have := HJ.out; omega
                have hp := HP.out
                rw [hji, back_all (was := true) (nb := false) rfl HTIN.out HG.out.1] at hp
                have hnex : ¬ ∃ x ∈ xs, ¬ In l (x - fr) := fun ⟨x, hx, hn⟩ => hn (HALL.out x hx)
                unfold turnAll
                rw [if_neg hnex, if_neg HBAD.out]
                exact ⟨rfl, hp, HO.out⟩
        · go_wp2_with fail
          go_ret
          have hp := HP.out
          have hg := HG.out
          rw [List.take_of_length_le (by omega)] at hp hg
          have hnex : ¬ ∃ x ∈ xs, ¬ In l (x - fr) := fun ⟨x, hx, hn⟩ => hn (HALL.out x hx)
          unfold turnAll
          rw [if_neg hnex, if_pos hg]
          exact ⟨rfl, hp, HO.out⟩
set_option maxHeartbeats 8000000 in
set_option maxRecDepth 100000 in
theorem turn_mark {pb sb : Nat} {fr : Int} {l : List Bool} (A : Option Addr) (c : Nat) (xs : List Int) (w : World) (h : PAt w pb sb fr l) (hrow : ∀ W, Only sb w W → Kd.C (Kd.int .i64) W A xs.length xs) (hc : xs.length ≤ c) (hxs : ∀ x ∈ xs, x ≤ 9223372036854775807) :
    Calls Try.prog 29 #[.pointer (some ⟨pb, 0, none⟩), .slice A xs.length c, .func (Fn.func 28) #[.pointer (some ⟨sb, 0, none⟩)] #[], .func (Fn.func 30) #[.pointer (some ⟨sb, 0, none⟩)] #[]] w fun e w' => e = .returned (.int .i64 (turnAll fr l xs false 7).2) ∧ PAt w' pb sb fr (turnAll fr l xs false 7).1 ∧ Only sb w w' := by
  have HP := Aside0.mk h
  have HROW := Aside0.mk hrow
  have HXS := Aside0.mk hxs
  have hlow := h.low
  have hhigh := h.high
  have hxl : xs.length ≤ 9223372036854775807 := (hrow w (.refl _ _)).2.1
  clear h hrow hxs
  go_enter Try.func29, Try.ntmps29
  go_wp2_with fail
  go_loopg [18, 10] xs.length (fun g v18 v10 wr => ∃ (i : Nat), v18 = .int .i64 i ∧ Aside0 (i + g = xs.length) ∧ Aside0 (∀ x ∈ xs.take i, In l (x - fr)) ∧ Aside0 (PAt wr pb sb fr l) ∧ Aside0 (Only sb w wr))
  case atStart => exact ⟨0, rfl, ⟨by omega⟩, ⟨by simp⟩, HP, ⟨.refl _ _⟩⟩
  case round =>
    clear HP
    obtain ⟨i, rfl, HI, HIN, HP, HO⟩ := hrel
    have c1 := HP.out.c1
    have c2 := HP.out.c2
    by_cases hi : i < xs.length
    · obtain ⟨ad, had, hcell⟩ := Kd.at_int (HROW.out wr HO.out) i (by omega) (by omega)
      have HTK := Aside0.mk (Pool.rd_take xs i hi)
      have HMEM := Aside0.mk (Pool.rd_mem xs i hi)
      have hx1 := HXS.out _ HMEM.out
      obtain ⟨x, hx⟩ : ∃ x, x = rd xs i := ⟨_, rfl⟩
      rw [← hx] at HTK HMEM hx1
      rw [← hx, Int.toNat_natCast] at hcell
      clear hx
      subst had
      by_cases hx0 : fr ≤ x
      · have d0 : decide (x < fr) = false := decide_eq_false (by omega)
        by_cases hx2 : x - fr < l.length
        · go_wp2_with fail
          refine Go.Reg.region (fun y => y = wr.drew) [.s, .s, .s, .s, .s, .s, .s, .s, .s, .s, .s, .s, .s, .s, .s, .s, .s, .s, .s] (by kernel_rfl) (by kernel_rfl) rfl (fun ne => ?_)
          have h1 : ∀ m : Go.Reg.In (fun y => y = wr.drew), m.w.cell? ⟨pb, 1, none⟩ = some (.int .i64 fr) := fun m => by rw [m.h]; exact c1
          have h2 : ∀ m : Go.Reg.In (fun y => y = wr.drew), m.w.cell? ⟨pb, 2, none⟩ = some (.int .i64 l.length) := fun m => by rw [m.h]; exact c2
          refine Go.Reg.lex_q 19 _ _ _ _ (by rfl) ?_; simp only [List.take_succ_cons, List.take_zero, List.drop_succ_cons, List.drop_zero]; (repeat (go_big_quiet_step (rfl))); refine wpQuiet_nil ?_
          refine Go.Reg.lex_nil ?_
          go_wp2_with fail
          go_roundg (gk - 1)
          case measure => have := HI.out; omega
          case rel => exact ⟨i + 1, by go_num, ⟨by have := HI.out; omega⟩, ⟨fun y hy => by
            rw [HTK.out] at hy
            rcases List.mem_append.1 hy with hy | hy
            · exact HIN.out y hy
            · rw [List.mem_singleton.1 hy]; exact ⟨by omega, hx2⟩⟩, ⟨HP.out.drew⟩, ⟨HO.out.drew⟩⟩
        · go_wp2_with fail
          refine Go.Reg.region (fun y => y = wr.drew) [.s, .s, .s, .s, .s, .s, .s, .s, .s, .s, .s, .s, .s, .s, .s, .s, .s, .s, .s] (by kernel_rfl) (by kernel_rfl) rfl (fun ne => ?_)
          have h1 : ∀ m : Go.Reg.In (fun y => y = wr.drew), m.w.cell? ⟨pb, 1, none⟩ = some (.int .i64 fr) := fun m => by rw [m.h]; exact c1
          have h2 : ∀ m : Go.Reg.In (fun y => y = wr.drew), m.w.cell? ⟨pb, 2, none⟩ = some (.int .i64 l.length) := fun m => by rw [m.h]; exact c2
          refine Go.Reg.lex_q 19 _ _ _ _ (by rfl) ?_; simp only [List.take_succ_cons, List.take_zero, List.drop_succ_cons, List.drop_zero]; (repeat (go_big_quiet_step (rfl))); refine wpQuiet_nil ?_
          refine Go.Reg.lex_nil ?_
          go_wp2_with fail
          go_ret
          have hex : ∃ x ∈ xs, ¬ In l (x - fr) := ⟨x, HMEM.out, fun hin => by have := hin.2; omega⟩
          unfold turnAll
          rw [if_pos hex]
          exact ⟨rfl, HP.out.drew, HO.out.drew⟩
      · have d0 : decide (x < fr) = true := decide_eq_true (by omega)
        go_wp2_with fail
        refine Go.Reg.region (fun y => y = wr.drew) [.s, .s, .s, .s, .s, .s, .s, .s, .s, .s, .s, .s, .s, .s, .s, .s, .s, .s, .s] (by kernel_rfl) (by kernel_rfl) rfl (fun ne => ?_)
        have h1 : ∀ m : Go.Reg.In (fun y => y = wr.drew), m.w.cell? ⟨pb, 1, none⟩ = some (.int .i64 fr) := fun m => by rw [m.h]; exact c1
        refine Go.Reg.lex_q 19 _ _ _ _ (by rfl) ?_; simp only [List.take_succ_cons, List.take_zero, List.drop_succ_cons, List.drop_zero]; (repeat (go_big_quiet_step (rfl))); refine wpQuiet_nil ?_
        refine Go.Reg.lex_nil ?_
        go_wp2_with fail
        go_ret
        have hex : ∃ x ∈ xs, ¬ In l (x - fr) := ⟨x, HMEM.out, fun hin => by have := hin.1; omega⟩
        unfold turnAll
        rw [if_pos hex]
        exact ⟨rfl, HP.out.drew, HO.out.drew⟩
    · have HALL : Aside0 (∀ x ∈ xs, In l (x - fr)) := ⟨by have := HIN.out; rwa [List.take_of_length_le (by omega)] at this⟩
      clear HIN HI c1 c2
      go_wp2_with fail
      go_loopg [44, 11, 12, 13] xs.length (fun g v44 v11 v12 v13 wr => ∃ (i : Nat), v44 = .int .i64 i ∧ Aside0 (i + g = xs.length) ∧ Aside0 ((∀ x ∈ xs.take i, l.getD (x - fr).toNat false = false) ∧ (xs.take i).Nodup) ∧ Aside0 (PAt wr pb sb fr (setAll l ((xs.take i).map (· - fr)) true)) ∧ Aside0 (Only sb w wr))
      case atStart => exact ⟨0, rfl, ⟨by omega⟩, ⟨by simp⟩, HP, HO⟩
      case round =>
        clear HP HO
        obtain ⟨i, rfl, HI, HG, HP, HO⟩ := hrel
        by_cases hi : i < xs.length
        · obtain ⟨ad, had, hcell⟩ := Kd.at_int (HROW.out wr HO.out) i (by omega) (by omega)
          have HTK := Aside0.mk (Pool.rd_take xs i hi)
          have HMEM := Aside0.mk (Pool.rd_mem xs i hi)
          obtain ⟨x, hx⟩ : ∃ x, x = rd xs i := ⟨_, rfl⟩
          rw [← hx] at HTK HMEM
          rw [← hx, Int.toNat_natCast] at hcell
          clear hx
          subst had
          have hxin := HALL.out x HMEM.out
          have HXIN := Aside0.mk hxin
          have hxi1 : 0 ≤ x - fr := hxin.1
          have hxi2 : x - fr < l.length := hxin.2
          have c1 := HP.out.c1
          have HTIN : Aside0 (∀ y ∈ xs.take i, In l (y - fr)) := ⟨fun y hy => HALL.out y (List.mem_of_mem_take hy)⟩
          have HGET := Aside0.mk (lk_get (b := true) HTIN.out hxin)
          clear hxin
          by_cases hok : l.getD (x - fr).toNat false = false ∧ x ∉ xs.take i
          · have hdo : addL (setAll l ((xs.take i).map (· - fr)) true) (x - fr) = (setAll l ((xs.take (i + 1)).map (· - fr)) true, 0) := by
              have hg := HGET.out
              rw [if_neg hok.2, hok.1] at hg
              unfold addL
              rw [if_neg (by rw [setAll_len]; omega), hg, if_neg (by decide), HTK.out, List.map_append, List.map_cons, List.map_nil, setAll_snoc]
            have HDO := Aside0.mk hdo
            have HG2 : Aside0 ((∀ y ∈ xs.take (i + 1), l.getD (y - fr).toNat false = false) ∧ (xs.take (i + 1)).Nodup) := ⟨by
              rw [HTK.out]
              refine ⟨fun y hy => ?_, ?_⟩
              · rcases List.mem_append.1 hy with hy | hy
                · exact HG.out.1 y hy
                · rw [List.mem_singleton.1 hy]; exact hok.1
              · rw [List.nodup_append]
                refine ⟨HG.out.2, by simp, fun a ha b hb => ?_⟩
                rw [List.mem_singleton.1 hb]
                rintro rfl
                exact hok.2 ha⟩
            clear hok hdo
            go_wp2_with fail
            refine (add_any sb _ (x - fr) _ HP.out.set).mono ?_
            rw [HDO.out]
            rintro e w3 ⟨rfl, a, g⟩
            replace HO := Aside0.mk (HO.out.trans (.of_grown g))
            replace HP := Aside0.mk (HP.out.grown a (by rw [setAll_len, setAll_len]) g)
            clear a g
            go_wp2_with fail
            go_roundg (gk - 1)
            case measure => have := HI.out; omega
            case rel => exact ⟨i + 1, by go_num, ⟨by have := HI.out; omega⟩, HG2, HP, HO⟩
          · have hdo : addL (setAll l ((xs.take i).map (· - fr)) true) (x - fr) = (setAll l ((xs.take i).map (· - fr)) true, 7) := by
              have hg := HGET.out
              have hg2 : (setAll l ((xs.take i).map (· - fr)) true).getD (x - fr).toNat false = true := by
                rw [hg]
                split
                · rfl
                · rename_i hn
                  cases hb : l.getD (x - fr).toNat false
                  · first | rfl | exact absurd ⟨hb, hn⟩ hok
                  · first | rfl | exact absurd ⟨hb, hn⟩ hok
              unfold addL
              rw [if_neg (by rw [setAll_len]; omega), hg2, if_pos rfl]
            have HDO := Aside0.mk hdo
            have hbad : ¬ ((∀ y ∈ xs, l.getD (y - fr).toNat false = false) ∧ xs.Nodup) := fun hh => hok ⟨hh.1 x HMEM.out, fun hm => by
              have h2 : (xs.take (i + 1)).Nodup := hh.2.sublist (List.take_sublist _ _)
              rw [HTK.out, List.nodup_append] at h2
              exact h2.2.2 x hm x (by simp) rfl⟩
            have HBAD := Aside0.mk hbad
            clear hok hdo hbad
            go_wp2_with fail
            refine (add_any sb _ (x - fr) _ HP.out.set).mono ?_
            rw [HDO.out]
            rintro e w3 ⟨rfl, a, g⟩
            replace HO := Aside0.mk (HO.out.trans (.of_grown g))
            replace HP := Aside0.mk (HP.out.grown a rfl g)
            clear a g c1
            go_wp2_with fail
            go_loopg [63, 15] i (fun g v63 v15 wr => ∃ (j : Nat), v63 = .int .i64 j ∧ Aside0 (j + g = i) ∧ Aside0 (PAt wr pb sb fr (setAll (setAll l ((xs.take i).map (· - fr)) true) ((xs.take j).map (· - fr)) false)) ∧ Aside0 (Only sb w wr))
            case atStart => exact ⟨0, rfl, ⟨by omega⟩, HP, HO⟩
            case round =>
              clear HP HO
              obtain ⟨j, rfl, HJ, HP, HO⟩ := hrel
              by_cases hj : j < i
              · have hjl : j < xs.length := by omega
                obtain ⟨ad2, had2, hcell2⟩ := Kd.at_int (HROW.out _ HO.out) j (by omega) (by omega)
                have HTK2 := Aside0.mk (Pool.rd_take xs j hjl)
                have HMEM2 := Aside0.mk (Pool.rd_mem xs j hjl)
                obtain ⟨y, hy⟩ : ∃ y, y = rd xs j := ⟨_, rfl⟩
                rw [← hy] at HTK2 HMEM2
                rw [← hy, Int.toNat_natCast] at hcell2
                clear hy
                cases had2
                have hyin := HALL.out y HMEM2.out
                have hyi1 : 0 ≤ y - fr := hyin.1
                have hyi2 : y - fr < l.length := hyin.2
                have c1 := HP.out.c1
                have HUN : Aside0 ((dropL (setAll (setAll l ((xs.take i).map (· - fr)) true) ((xs.take j).map (· - fr)) false) (y - fr)).1 = setAll (setAll l ((xs.take i).map (· - fr)) true) ((xs.take (j + 1)).map (· - fr)) false) := ⟨by
                  rw [dropL_set ⟨hyi1, by rw [setAll_len, setAll_len]; exact hyi2⟩, HTK2.out, List.map_append, List.map_cons, List.map_nil, setAll_snoc]⟩
                clear hyin
                go_wp2_with fail
                refine (drop_any sb _ (y - fr) _ HP.out.set).mono ?_
                rw [HUN.out]
                rintro e w4 ⟨rfl, a, g⟩
                replace HO := Aside0.mk (HO.out.trans (.of_grown g))
                replace HP := Aside0.mk (HP.out.grown a (by rw [setAll_len, setAll_len, setAll_len, setAll_len]) g)
                clear a g
                go_wp2_with fail
                go_roundg (gk - 1)
                case measure => have := HJ.out; omega
                case rel => exact ⟨j + 1, by go_num, ⟨by have := HJ.out; omega⟩, HP, HO⟩
              · go_wp2_with fail
                go_ret
                have hji : j = i := by have := HJ.out; omega
                have hp := HP.out
                rw [hji, back_all (was := false) (nb := true) rfl HTIN.out HG.out.1] at hp
                have hnex : ¬ ∃ x ∈ xs, ¬ In l (x - fr) := fun ⟨x, hx, hn⟩ => hn (HALL.out x hx)
                unfold turnAll
                rw [if_neg hnex, if_neg HBAD.out]
                exact ⟨rfl, hp, HO.out⟩
        · go_wp2_with fail
          go_ret
          have hp := HP.out
          have hg := HG.out
          rw [List.take_of_length_le (by omega)] at hp hg
          have hnex : ¬ ∃ x ∈ xs, ¬ In l (x - fr) := fun ⟨x, hx, hn⟩ => hn (HALL.out x hx)
          unfold turnAll
          rw [if_neg hnex, if_pos hg]
          exact ⟨rfl, hp, HO.out⟩
set_option maxRecDepth 100000 in
theorem give_nil (v : Value) (w : World) : Calls Try.prog 13 #[.pointer none, v] w fun e w' => e = .returned (.int .i64 8) ∧ w = w' := by
  go_enter Try.func13, Try.ntmps13
  go_wp2
  go_ret
  exact ⟨rfl, rfl⟩
set_option maxRecDepth 100000 in
theorem give_any {pb sb : Nat} {fr : Int} {l : List Bool} (A : Option Addr) (c : Nat) (xs : List Int) (w : World) (h : PAt w pb sb fr l) (hrow : ∀ W, Only sb w W → Kd.C (Kd.int .i64) W A xs.length xs) (hc : xs.length ≤ c) (hxs : ∀ x ∈ xs, x ≤ 9223372036854775807) :
    Calls Try.prog 13 #[.pointer (some ⟨pb, 0, none⟩), .slice A xs.length c] w fun e w' => e = .returned (.int .i64 (turnAll fr l xs true 6).2) ∧ PAt w' pb sb fr (turnAll fr l xs true 6).1 ∧ Only sb w w' := by
  have HP := Aside0.mk h
  have HROW := Aside0.mk hrow
  have HXS := Aside0.mk hxs
  clear h hrow hxs
  go_enter Try.func13, Try.ntmps13
  go_wp2_with fail
  refine Go.Reg.region (fun x => x = w.drew) [.s, .s, .s, .s, .s, .s, .s, .s, .s, .s, .s, .s, .s, .s, .x, .p] (by kernel_rfl) (by kernel_rfl) rfl (fun ne => ?_)
  have h0 : ∀ m : Go.Reg.In (fun x => x = w.drew), m.w.cell? ⟨pb, 0, none⟩ = some (.pointer (some ⟨sb, 0, none⟩)) := fun m => by rw [m.h]; exact HP.out.c0
  refine Go.Reg.lex_q 7 _ _ _ _ (by rfl) ?_; simp only [List.take_succ_cons, List.take_zero, List.drop_succ_cons, List.drop_zero]; (repeat (go_big_quiet_step (rfl))); refine wpQuiet_nil ?_
  refine Go.Reg.lex_s (fun K hK => ?_)
  rw [if_pos (by rfl)]
  refine ⟨.func (Fn.func 30) #[.pointer (some ⟨sb, 0, none⟩)] #[], fun x hx => ⟨rfl, by simp [Act.eval]⟩, hK _ ?_⟩
  clear hK K
  simp only [Act.put, List.setIfInBounds_toArray, List.set_cons_succ, List.set_cons_zero]
  refine Go.Reg.lex_q 5 _ _ _ _ (by rfl) ?_; simp only [List.take_succ_cons, List.take_zero, List.drop_succ_cons, List.drop_zero]; (repeat (go_big_quiet_step (rfl))); refine wpQuiet_nil ?_
  refine Go.Reg.lex_s (fun K hK => ?_)
  rw [if_pos (by rfl)]
  refine ⟨.func (Fn.func 28) #[.pointer (some ⟨sb, 0, none⟩)] #[], fun x hx => ⟨rfl, by simp [Act.eval]⟩, hK _ ?_⟩
  clear hK K
  simp only [Act.put, List.setIfInBounds_toArray, List.set_cons_succ, List.set_cons_zero]
  refine Go.Reg.step_x (by rfl) (fun K hK => ?_)
  go_wp2_with fail
  refine (turn_give A c xs w.drew HP.out.drew (fun W hW => HROW.out W ((Only.refl sb w).drew.trans hW)) hc HXS.out).mono ?_
  rintro e w2 ⟨rfl, hp, ho⟩
  have HP2 := Aside0.mk hp
  have HO2 := Aside0.mk ho
  clear hp ho
  go_wp2_with fail
  refine hK.out _ _ ?_
  clear hK K
  refine Go.Reg.lex_qp 1 _ _ _ _ _ (by rfl) ?_; simp only [List.take_succ_cons, List.take_zero, List.drop_succ_cons, List.drop_zero]; (repeat (go_big_quiet_step (rfl))); refine wpQuiet_nil ?_
  refine Go.Reg.lex_nil ?_
  go_wp2_with fail
  go_ret
  exact ⟨rfl, HP2.out, (Only.refl sb w).drew.trans HO2.out⟩
set_option maxRecDepth 100000 in
theorem mark_nil (v : Value) (w : World) : Calls Try.prog 17 #[.pointer none, v] w fun e w' => e = .returned (.int .i64 8) ∧ w = w' := by
  go_enter Try.func17, Try.ntmps17
  go_wp2
  go_ret
  exact ⟨rfl, rfl⟩
set_option maxRecDepth 100000 in
theorem mark_any {pb sb : Nat} {fr : Int} {l : List Bool} (A : Option Addr) (c : Nat) (xs : List Int) (w : World) (h : PAt w pb sb fr l) (hrow : ∀ W, Only sb w W → Kd.C (Kd.int .i64) W A xs.length xs) (hc : xs.length ≤ c) (hxs : ∀ x ∈ xs, x ≤ 9223372036854775807) :
    Calls Try.prog 17 #[.pointer (some ⟨pb, 0, none⟩), .slice A xs.length c] w fun e w' => e = .returned (.int .i64 (turnAll fr l xs false 7).2) ∧ PAt w' pb sb fr (turnAll fr l xs false 7).1 ∧ Only sb w w' := by
  have HP := Aside0.mk h
  have HROW := Aside0.mk hrow
  have HXS := Aside0.mk hxs
  clear h hrow hxs
  go_enter Try.func17, Try.ntmps17
  go_wp2_with fail
  refine Go.Reg.region (fun x => x = w.drew) [.s, .s, .s, .s, .s, .s, .s, .s, .s, .s, .s, .s, .s, .s, .x, .p] (by kernel_rfl) (by kernel_rfl) rfl (fun ne => ?_)
  have h0 : ∀ m : Go.Reg.In (fun x => x = w.drew), m.w.cell? ⟨pb, 0, none⟩ = some (.pointer (some ⟨sb, 0, none⟩)) := fun m => by rw [m.h]; exact HP.out.c0
  refine Go.Reg.lex_q 7 _ _ _ _ (by rfl) ?_; simp only [List.take_succ_cons, List.take_zero, List.drop_succ_cons, List.drop_zero]; (repeat (go_big_quiet_step (rfl))); refine wpQuiet_nil ?_
  refine Go.Reg.lex_s (fun K hK => ?_)
  rw [if_pos (by rfl)]
  refine ⟨.func (Fn.func 28) #[.pointer (some ⟨sb, 0, none⟩)] #[], fun x hx => ⟨rfl, by simp [Act.eval]⟩, hK _ ?_⟩
  clear hK K
  simp only [Act.put, List.setIfInBounds_toArray, List.set_cons_succ, List.set_cons_zero]
  refine Go.Reg.lex_q 5 _ _ _ _ (by rfl) ?_; simp only [List.take_succ_cons, List.take_zero, List.drop_succ_cons, List.drop_zero]; (repeat (go_big_quiet_step (rfl))); refine wpQuiet_nil ?_
  refine Go.Reg.lex_s (fun K hK => ?_)
  rw [if_pos (by rfl)]
  refine ⟨.func (Fn.func 30) #[.pointer (some ⟨sb, 0, none⟩)] #[], fun x hx => ⟨rfl, by simp [Act.eval]⟩, hK _ ?_⟩
  clear hK K
  simp only [Act.put, List.setIfInBounds_toArray, List.set_cons_succ, List.set_cons_zero]
  refine Go.Reg.step_x (by rfl) (fun K hK => ?_)
  go_wp2_with fail
  refine (turn_mark A c xs w.drew HP.out.drew (fun W hW => HROW.out W ((Only.refl sb w).drew.trans hW)) hc HXS.out).mono ?_
  rintro e w2 ⟨rfl, hp, ho⟩
  have HP2 := Aside0.mk hp
  have HO2 := Aside0.mk ho
  clear hp ho
  go_wp2_with fail
  refine hK.out _ _ ?_
  clear hK K
  refine Go.Reg.lex_qp 1 _ _ _ _ _ (by rfl) ?_; simp only [List.take_succ_cons, List.take_zero, List.drop_succ_cons, List.drop_zero]; (repeat (go_big_quiet_step (rfl))); refine wpQuiet_nil ?_
  refine Go.Reg.lex_nil ?_
  go_wp2_with fail
  go_ret
  exact ⟨rfl, HP2.out, (Only.refl sb w).drew.trans HO2.out⟩
end Bits
end Go.Proofs.Ythmdpmpnlphfdaa
