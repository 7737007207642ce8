/- The pool in memory: contracts, second part. -/
import Derived.Test.YthmdpmpnlphfdaaPw
import Derived.Test.YthmdpmpnlphfdaaReg
import Derived.Below
import Derived.Deep.MidRow
import Derived.Deep.WholeRow
import Derived.Great.BuildSlice
import Derived.Lib.Hide
import Derived.OwnWalk
import Derived.WalkKit
import Derived.KernelRfl
import Derived.RowKit3
import Derived.Deep.LoopGhost
import Derived.Deep.QuietTactic
import Derived.BigQuiet
import Derived.WideLaws
import Derived.Outline
import Derived.Deep.DeepCutAuto
import Derived.Deep.CutBlock
import Derived.WalkSpells
import Derived.RegionTactic
import Derived.BigRegion
import Derived.WalkLawsBesides
namespace Go.Proofs.Ythmdpmpnlphfdaa
set_option linter.unusedVariables false
set_option linter.unusedSimpArgs false
open Go.RowKit Go.Proofs.YthmdpmpnlphfdaaW.PrintWords Go.Proofs.YthmdpmpnlphfdaaW.PrintLast Go.Proofs.YthmdpmpnlphfdaaW.PrintMore
namespace Bits
open Go.Bits Go.Pool
theorem setAll_in {l : List Bool} {xs : List Int} {b : Bool} {x : Int} (h : In l x) : In (setAll l xs b) x := by
  unfold In at h ⊢
  rwa [setAll_len]
theorem get_in {l : List Bool} {xs : List Int} {b : Bool} {q : Int} (hin : ∀ x ∈ xs, In l x) (hq : 0 ≤ q) (hn : q ∉ xs) : (setAll l xs b).getD q.toNat false = l.getD q.toNat false := by
  rw [setAll_get b xs l q.toNat hin, Int.toNat_of_nonneg hq, if_neg hn]
theorem step_add {l : List Bool} {xs : List Int} {q : Int} (hin : ∀ x ∈ xs, In l x) (hq : In l q) (hn : q ∉ xs) (hb : l.getD q.toNat false = false) : addL (setAll l xs true) q = (setAll l (xs ++ [q]) true, 0) := by
  unfold In at hq
  unfold addL
  rw [if_neg (by rw [setAll_len]; omega), get_in hin hq.1 hn, hb, if_neg (by decide), setAll_snoc]
theorem first_after {l : List Bool} {xs : List Int} (p : Nat) (hin : ∀ x ∈ xs, In l x) (hlt : ∀ x ∈ xs, x < p) : firstAt (setAll l xs true) false p = firstAt l false p :=
  first_agree (by rw [setAll_len]) _ p rfl fun j hj => by rw [setAll_get _ _ _ _ hin, if_neg (fun hm => by have := hlt _ hm; omega)]
theorem mine {B : Nat} {w0 w w' : World} {b : Nat} {l : List Bool} (hB : Below B w0 w) (h : At w b l) (hb : B ≤ b) (hg : w.grownBy w' (some b)) : Below B w0 w' :=
  hB.grown hg (Nat.le_of_lt (Nat.lt_of_le_of_lt hb h.lt)) (fun k hk => by cases hk; exact hb)
/-- A list was made longer: the pool stands. -/
theorem PAt.appended {W w1 : World} {pb sb : Nat} {fr : Int} {l : List Bool} {base : Nat} {ok : Nat → Prop} {v : Value} {xs : List Int} (h : PAt W pb sb fr l) (hr : Kd.R (Kd.int .i64) 3 W base ok v xs) (hg : W.grownBy w1 v.ownBlock) : PAt w1 pb sb fr l := by
  have hs := h.set
  obtain ⟨ws, hb, hw⟩ := hs
  have n1 := Kd.R_ne hr hb (by decide)
  have n2 := Kd.R_ne hr h.cells (by decide)
  exact ⟨(hg.block pb h.lt n2).trans h.cells, ⟨ws, (hg.block sb h.set.lt n1).trans hb, hw⟩, h.low, h.high⟩
theorem PAt.alloc {w : World} {pb sb : Nat} {fr : Int} {l : List Bool} (h : PAt w pb sb fr l) (o : Obj) : PAt (w.alloc o) pb sb fr l := h.below ((Below.refl _ _).alloc (Nat.le_refl _) _)
theorem PAt.drewN {w : World} {pb sb : Nat} {fr : Int} {l : List Bool} (h : PAt w pb sb fr l) (n : Nat) : PAt (w.drewN n) pb sb fr l := ⟨h.cells, h.set, h.low, h.high⟩
theorem PAt.drew {w : World} {pb sb : Nat} {fr : Int} {l : List Bool} (h : PAt w pb sb fr l) : PAt w.drew pb sb fr l := ⟨h.cells, h.set, h.low, h.high⟩
theorem Only.appended {b : Nat} {w W w1 : World} {base : Nat} {v : Value} {xs : List Int} (h : Only b w W) (hr : Kd.R (Kd.int .i64) 3 W base (fun k => w.heap.size ≤ k) v xs) (hg : W.grownBy w1 v.ownBlock) : Only b w w1 :=
  ⟨hg.os.trans h.os, hg.tape.trans h.tape, hg.output.trans h.output, Nat.le_trans h.size hg.size, fun k hk hne => (hg.block k (Nat.lt_of_lt_of_le hk h.size) (fun e => by have := hr.1 k e.symm; omega)).trans (h.block k hk hne)⟩
theorem Only.drew {b : Nat} {x y : World} (h : Only b x y) : Only b x y.drew := ⟨h.os, h.tape, h.output, h.size, h.block⟩
set_option maxRecDepth 100000 in
theorem take_nil (n : Int) (w : World) : Calls Try.prog 12 #[.pointer none, .int .i64 n] w fun e w' => e = .returned (.tuple #[.slice none 0 0, .int .i64 8]) ∧ w = w' := by
  go_enter Try.func12, Try.ntmps12
  go_wp2
  go_ret2
  exact ⟨rfl, rfl⟩
set_option maxHeartbeats 8000000 in
set_option maxRecDepth 100000 in
theorem take_any {w0 : World} {pb sb : Nat} {fr : Int} {l : List Bool} (n : Int) (w : World) (h : PAt w pb sb fr l) (hB : Below w0.heap.size w0 w) (hs : w0.heap.size ≤ sb) :
    Calls Try.prog 12 #[.pointer (some ⟨pb, 0, none⟩), .int .i64 n] w fun e w' => ∃ v, e = .returned (.tuple #[v, .int .i64 (takeAll fr l n).2.2]) ∧ Kd.R (Kd.int .i64) 3 w' w0.heap.size (fun k => w.heap.size ≤ k) v (takeAll fr l n).2.1 ∧ PAt w' pb sb fr (takeAll fr l n).1 ∧ Only sb w w' := by
  have HP := Aside0.mk h
  have HB := Aside0.mk hB
  have HS := Aside0.mk hs
  have c0 := h.c0
  have c1 := h.c1
  have c2 := h.c2
  have hlen := h.len
  have hlow := h.low
  have hhigh := h.high
  have HGL := Aside0.mk (gaps_len l)
  clear h hB hs
  unfold takeAll
  by_cases hn : n < 0
  · rw [if_pos hn]
    go_enter Try.func12, Try.ntmps12
    go_wp2_with fail
    go_ret2
    exact ⟨_, rfl, Kd.R_nil _ _ _ _ _, HP.out, .refl _ _⟩
  · rw [if_neg hn]
    by_cases hf : (gaps l).length < n
    · rw [if_pos hf]
      go_enter Try.func12, Try.ntmps12
      go_wp2_with fail
      refine (free_any _ HP.out).mono ?_
      rintro e w1 ⟨rfl, b⟩
      replace HP := Aside0.mk (HP.out.below b)
      have HO := Aside0.mk (Only.of_below (b := sb) b)
      clear b
      go_wp2_with fail
      go_ret2
      exact ⟨_, rfl, Kd.R_nil _ _ _ _ _, HP.out, HO.out⟩
    · rw [if_neg hf]
      have hg : ((gaps l).length : Int) ≤ l.length := by have := HGL.out; omega
      go_enter Try.func12, Try.ntmps12
      go_wp2_with fail
      refine (free_any _ HP.out).mono ?_
      rintro e w1 ⟨rfl, b⟩
      replace HP := Aside0.mk (HP.out.below b)
      replace HB := Aside0.mk (HB.out.trans (b.mono HB.out.size))
      have HO := Aside0.mk (Only.of_below (b := sb) b)
      clear b c0 c1 c2
      have c0 := HP.out.c0
      go_wp2_with fail
      refine (gap_any sb l 0 _ HP.out.set).mono ?_
      rintro e w' ⟨rfl, rfl⟩
      go_wp2_with fail
      go_loopg [6, 7] (l.length + 1) (fun g v6 v7 wr => ∃ (p : Nat) (xs : List Int), v7 = .int .i64 (firstAt l false p) ∧ Aside0 (p + g = l.length + 1) ∧ Aside0 (xs ++ listAt l false p = gaps l) ∧ (xs.length : Int) ≤ n ∧ Aside0 (∀ x ∈ xs, x < p) ∧ Aside0 (Kd.R (Kd.int .i64) 3 wr w0.heap.size (fun k => w.heap.size ≤ k) v6 (xs.map (fr + ·))) ∧ Aside0 (PAt wr pb sb fr (setAll l xs true)) ∧ Aside0 (Below w0.heap.size w0 wr) ∧ Aside0 (Only sb w wr))
      case atStart => exact ⟨0, [], rfl, ⟨by omega⟩, ⟨rfl⟩, by simp; omega, ⟨by simp⟩, ⟨Kd.R_nil _ _ _ _ _⟩, HP, HB, HO⟩
      case round =>
        clear HP HB HO c0
        obtain ⟨p, xs, rfl, HPG, HL, hxn, HX, HR, HP, HB, HO⟩ := hrel
        have c0 := HP.out.c0
        have c1 := HP.out.c1
        have hlf := list_first l false p
        have hbd := first_bd l false p
        have HIN := Aside0.mk (list_in (l := l) (b := false) _ p rfl)
        obtain ⟨q, hq⟩ : ∃ q, q = firstAt l false p := ⟨_, rfl⟩
        rw [← hq] at hlf hbd ⊢
        clear hq
        obtain ⟨AV, cV, hV⟩ := Kd.R_slice HR.out
        rw [List.length_map] at hV
        subst hV
        by_cases hlt : (xs.length : Int) < n
        · have hq0 : q ≠ -1 := fun e => by
            rw [if_pos e] at hlf
            have := HL.out
            rw [hlf, List.append_nil] at this
            rw [this] at hlt
            omega
          rw [if_neg hq0] at hlf
          have hq1 : 0 ≤ q := by omega
          have hq2 : (p : Int) ≤ q := by omega
          have hq3 : q < l.length := hbd.2.1
          have HLF := Aside0.mk hlf
          have hqin := HIN.out q (by rw [hlf]; exact List.mem_cons_self)
          have HXI : Aside0 (∀ x ∈ xs, In l x) := ⟨fun x hx => (list_in (b := false) _ 0 rfl x (by have := HL.out; show x ∈ gaps l; rw [← this]; exact List.mem_append_left _ hx)).2.1⟩
          have HADD := Aside0.mk (step_add HXI.out hqin.2.1 (fun hm => by have := HX.out _ hm; omega) hqin.2.2)
          have HX2 : Aside0 (∀ x ∈ xs ++ [q], x < ((q.toNat + 1 : Nat) : Int)) := ⟨fun x hx => by
            rcases List.mem_append.1 hx with hx | hx
            · have := HX.out x hx; omega
            · rw [List.mem_singleton.1 hx]; omega⟩
          have HXI2 : Aside0 (∀ x ∈ xs ++ [q], In l x) := ⟨fun x hx => by
            rcases List.mem_append.1 hx with hx | hx
            · exact HXI.out x hx
            · rw [List.mem_singleton.1 hx]; exact hqin.2.1⟩
          have HF : Aside0 (firstL (setAll l (xs ++ [q]) true) (q + 1) false = firstAt l false (q.toNat + 1)) := ⟨by
            unfold firstL
            rw [show (q + 1).toNat = q.toNat + 1 by omega]
            exact first_after _ HXI2.out HX2.out⟩
          have LM : Aside0 (xs.length < 17592186044416) := ⟨by omega⟩
          have hlx : ((fr + q : Int)) ≤ 2000 := by omega
          clear hlf hbd hqin HIN
          go_wp2_with fail
          refine (add_any sb (setAll l xs true) q _ HP.out.set).mono ?_
          rw [HADD.out]
          rintro e w3 ⟨rfl, a, g⟩
          replace HB := Aside0.mk (mine HB.out HP.out.set HS.out g)
          replace HO := Aside0.mk (HO.out.trans (.of_grown g))
          have hRg : Kd.R (Kd.int .i64) 3 w3 w0.heap.size (fun k => w.heap.size ≤ k) (.slice AV xs.length cV) (xs.map (fr + ·)) := by
            have hs := HP.out.set
            obtain ⟨ws, hb, _⟩ := hs
            exact Kd.R_grown1 HR.out rfl g (Kd.R_ne HR.out hb (by decide))
          replace HR := Aside0.mk hRg
          replace HP := Aside0.mk (HP.out.grown a (by rw [setAll_len, setAll_len]) g)
          clear a g hRg c0 c1
          have c1 := HP.out.c1
          go_wp2_with (first | ((with_reducible refine gate_builtin (b := .append) (xs := #[.tmp 44, .tmp 51]) rfl ?_); at_builtin; refine Kd.R_append (Kd.int .i64) (w0 := w0) w0.heap.size rfl (.tmp 44) (.tmp 51) 36 3 (.int .i64 0) 8 rfl Try.underlying36 infoInt rfl (by decide) (by omega) (.slice AV xs.length cV) (xs.map (fr + ·)) (fr + q) [.int .i64 (fr + q)] (fun k => w.heap.size ≤ k) (fun _ => False) rfl rfl ?aP (fun _ hk => hk.elim) ?aF ?aO ?aB ?aS ?aL ?_; (case aP => exact rfl); (case aB => exact (by repeat (first | (with_reducible first | exact HB.out | apply below_alloc | apply pw_below_drewN | apply below_drew1) | exact HB.out))); (case aF => exact (fun k hk => Nat.le_trans (Only.size (by (with_reducible repeat (first | apply Only.alloc | apply Only.drewN | apply Only.drew)); exact HO.out)) hk)); (case aO => exact (by (with_reducible repeat (first | apply Kd.R_alloc | apply Kd.R_drewN | apply Kd.R_drew)); exact HR.out)); (case aS => exact (below_size (by repeat (first | (with_reducible first | exact HB.out | apply below_alloc | apply pw_below_drewN | apply below_drew1) | exact HB.out)))); (case aL => have := LM.out; simp only [List.length_map]; omega); intro v131 w9 ho hb hg hat; have n1_ := Aside0.mk hb; have n2_ := Aside0.mk ho; have n3_ := Aside0.mk (PAt.appended (by (with_reducible repeat (first | apply PAt.alloc | apply PAt.drewN | apply PAt.drew)); exact HP.out) (by (with_reducible repeat (first | apply Kd.R_alloc | apply Kd.R_drewN | apply Kd.R_drew)); exact HR.out) hg); have n4_ := Aside0.mk (Only.appended (by (with_reducible repeat (first | apply Only.alloc | apply Only.drewN | apply Only.drew)); exact HO.out) (by (with_reducible repeat (first | apply Kd.R_alloc | apply Kd.R_drewN | apply Kd.R_drew)); exact HR.out) hg); clear HB HR HP HO; have HB := n1_; have HR := n2_; have HP := n3_; have HO := n4_; clear n1_ n2_ n3_ n4_; clear ho hb hg hat; have c0n := HP.out.c0; have c1n := HP.out.c1) | (go_at_call 27; refine (gap_any sb _ (q + 1) _ HP.out.set).mono ?_; rw [HF.out]; rintro e w' ⟨rfl, rfl⟩))
          go_roundg (l.length - q.toNat)
          case measure => have := HPG.out; omega
          case rel => exact ⟨q.toNat + 1, xs ++ [q], rfl, ⟨by omega⟩, ⟨by have := HL.out; rw [HLF.out] at this; rw [List.append_assoc]; exact this⟩, by rw [List.length_append]; simp; omega, HX2, ⟨by rw [List.map_append]; exact HR.out⟩, HP, HB, HO⟩
        · go_wp2_with fail
          go_ret2
          have hxs : (gaps l).take n.toNat = xs := by
            rw [← HL.out, show n.toNat = xs.length by omega]
            simp
          refine ⟨.slice AV xs.length cV, rfl, ?_, ?_, HO.out⟩
          · rw [← List.map_take, hxs]; exact HR.out
          · rw [hxs]; exact HP.out
end Bits
end Go.Proofs.Ythmdpmpnlphfdaa
