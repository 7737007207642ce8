/- The disk in memory: reads and writes. -/
import Derived.Test.YtooemgcijbdilaaDn
import Derived.Below
import Derived.Lib.Hide
import Derived.OwnWalk
import Derived.WalkKit
import Derived.KernelRfl
import Derived.RowKit3
import Derived.Deep.LoopGhost
import Derived.Deep.QuietTactic
import Derived.BigQuiet
import Derived.WideLaws
import Derived.Great.BuildSlice
import Derived.Outline
import Derived.Deep.DeepCutAuto
import Derived.WalkSpells
import Derived.RegionTactic
import Derived.BigRegion
import Derived.WalkLawsBesides
namespace Go.Proofs.Ytooemgcijbdilaa
set_option linter.unusedVariables false
set_option linter.unusedSimpArgs false
open Go.RowKit Go.Proofs.YtooemgcijbdilaaW.PrintWords Go.Proofs.YtooemgcijbdilaaW.PrintLast Go.Proofs.YtooemgcijbdilaaW.PrintMore
namespace Disk
open Go.Disk PDiskDoes
/-- The last write of a block that waits. -/
def lastW : List (Int × List Int) → Int → Option (List Int)
  | [], _ => none
  | p :: ws, n => match lastW ws n with
    | some b => some b
    | none => if p.1 = n then some p.2 else none
theorem lastW_none : ∀ (ws : List (Int × List Int)) (n : Int), (∀ j (h : j < ws.length), ws[j].1 ≠ n) → lastW ws n = none
  | [], _, _ => rfl
  | p :: ws, n, h => by
    have h1 := lastW_none ws n (fun j hj => h (j + 1) (by simpa using hj))
    have h2 := h 0 (by simp)
    unfold lastW
    rw [h1]
    exact if_neg h2
theorem lastW_hit : ∀ (ws : List (Int × List Int)) (n : Int) (j : Nat) (hj : j < ws.length), ws[j].1 = n → (∀ i (h : i < ws.length), j < i → ws[i].1 ≠ n) → lastW ws n = some ws[j].2
  | p :: ws, n, 0, _, h, hl => by
    have h1 := lastW_none ws n (fun i hi => hl (i + 1) (by simpa using hi) (by omega))
    unfold lastW
    rw [h1]
    exact if_pos h
  | p :: ws, n, j + 1, hj, h, hl => by
    have h1 := lastW_hit ws n j (by simpa using hj) h (fun i hi hji => hl (i + 1) (by simpa using hi) (by omega))
    unfold lastW
    rw [h1]
    rfl
/-- A block as it was written last. -/
def nowD (D : Dk) (n : Int) : List Int := (lastW D.waits n).getD (D.safe.getD n.toNat [])
theorem safe_C {w : World} {base db sb cs : Nat} {D : Dk} {vw : Value} {sp : List Value} (h : PDx w base db sb D vw cs sp) (n : Nat) (hn : n < D.safe.length) : Kd.C (Kd.int .u8) w (some ⟨sb, n * 256, none⟩) 256 D.safe[n] := by
  have hl := h.ok.len _ (List.getElem_mem hn)
  have hb := flat_block h.ok.len n hn
  refine ⟨hl, by omega, fun _ => ⟨_, rfl, fun j p hj => ⟨[.int .u8 p], rfl, rfl, fun i u hu => ?_⟩⟩⟩
  have hjl : j < 256 := by
    rcases Nat.lt_or_ge j 256 with h' | h'
    · exact h'
    · rw [List.getElem?_eq_none (by omega)] at hj; cases hj
  have hi : i = 0 := by
    rcases Nat.eq_zero_or_pos i with h' | h'
    · exact h'
    · rw [List.getElem?_eq_none (by simp; omega)] at hu; cases hu
  subst hi
  simp at hu
  subst hu
  have hadd : (⟨sb, n * 256, none⟩ : Addr).add (j * (Kd.int .u8).sz + 0) = ⟨sb, n * 256 + j, none⟩ := by
    rw [show j * (Kd.int .u8).sz + 0 = j from by show j * 1 + 0 = j; omega]
    unfold Addr.add
    split <;> simp_all
  rw [hadd, cell_blk h.safe]
  rw [← hb, List.getElem?_take_of_lt hjl, List.getElem?_drop] at hj
  have hlt : n * 256 + j < D.safe.flatten.length := by
    rcases Nat.lt_or_ge (n * 256 + j) D.safe.flatten.length with h' | h'
    · exact h'
    · rw [List.getElem?_eq_none h'] at hj; cases hj
  rw [List.getElem?_toArray, List.getElem?_append_left (by rw [u8s_len]; exact hlt)]
  unfold u8s
  rw [List.getElem?_map, hj]
  rfl
theorem now_any {w : World} {base db sb : Nat} {D : Dk} (h : PD w base db sb D) (N : Int) (hN : 0 ≤ N ∧ N < D.safe.length) (hfew : D.waits.length ≤ 1000000000) :
    Calls Try.prog 36 #[.pointer (some ⟨db, 0, none⟩), .int .i64 N] w fun e W' => ∃ a c, e = .returned (.slice (some a) 256 c) ∧ 256 ≤ c ∧ Kd.C (Kd.int .u8) W' (some a) 256 (nowD D N) ∧ Below w.heap.size w W' := by
  obtain ⟨vw, cs, sp, h⟩ := h
  obtain ⟨n, rfl⟩ : ∃ n : Nat, N = n := ⟨N.toNat, by omega⟩
  have hn : n < D.safe.length := by omega
  have hrow := h.waits
  have hall : ∀ j, ∃ x : Ent, x.i = j ∧ ∀ hj : j < D.waits.length, ∃ g, x.n = D.waits[j].1 ∧ (∃ cap, vw = .slice (some ⟨g, 0, none⟩) D.waits.length cap) ∧ g < w.heap.size ∧ w.cell? ⟨g, j * 2, none⟩ = some (.int .i64 x.n) ∧ w.cell? ⟨g, j * 2 + 1, none⟩ = some x.v ∧ Kd.R (Kd.int .u8) 5 w base (fun k => k ≠ sb) x.v D.waits[j].2 := by
    intro j
    by_cases hj : j < D.waits.length
    · obtain ⟨g, cap, vb, hv, c0, c1, hr, _, hg, _⟩ := W_at hrow j hj
      obtain ⟨A, c, rfl⟩ := Kd.R_slice hr
      exact ⟨⟨j, D.waits[j].1, A, D.waits[j].2.length, c⟩, rfl, fun _ => ⟨g, rfl, ⟨cap, hv⟩, hg, c0, c1, hr⟩⟩
    · exact ⟨⟨j, 0, none, 0, 0⟩, rfl, fun h' => absurd h' hj⟩
  obtain ⟨E, hE⟩ := Classical.axiomOfChoice hall
  have hI : Ents w.heap.size w vw D.waits.length E := by
    by_cases hz : D.waits.length = 0
    · obtain ⟨h0, inner, ⟨hl, ho⟩, hr1, hr2⟩ := hrow
      rcases ho with ⟨hv, _⟩ | ⟨g, cap, cur, hv, _, hb, _⟩
      · exact .inl ⟨hv, hz⟩
      · exact .inr ⟨g, cap, hv, blk_lt hb, fun j hj => by omega⟩
    · obtain ⟨g0, _, ⟨cap, hv⟩, hg, _⟩ := (hE 0).2 (by omega)
      refine .inr ⟨g0, cap, hv, hg, fun j hj => ?_⟩
      obtain ⟨g, _, ⟨cap', hv'⟩, _, c0, c1, _⟩ := (hE j).2 hj
      rw [hv] at hv'
      cases hv'
      exact ⟨c0, c1⟩
  refine (now_v h n hn E (fun j => (hE j).1) D.waits.length hfew hI).mono ?_
  rintro e W' ⟨⟨j, hj, hjn, hjl, rfl⟩ | ⟨hno, rfl⟩, hB⟩
  · obtain ⟨g, en, _, _, _, _, hr⟩ := (hE j).2 hj
    obtain ⟨h1, h2, h3⟩ := Kd.R_reads' (Kd.R_below hr hB)
    have hlen := (h.ok.at_ _ (List.getElem_mem hj)).2.2.1
    have hnow : nowD D (n : Int) = D.waits[j].2 := by
      unfold nowD
      rw [lastW_hit D.waits n j hj (by rw [← en]; exact hjn) (fun i hi hji => by rw [← ((hE i).2 hi).choose_spec.1]; exact hjl i hji hi)]
      rfl
    obtain ⟨a, ha, _⟩ := Kd.at_int h3 0 (by omega) (by omega)
    rw [hlen] at h3
    refine ⟨a, (E j).c, ?_, by omega, ?_, hB⟩
    · unfold Ent.v
      rw [ha, h1, hlen]
    · rw [hnow, ← ha]
      exact h3
  · have hnow : nowD D (n : Int) = D.safe[n] := by
      unfold nowD
      rw [lastW_none D.waits n (fun j hj => by rw [← ((hE j).2 hj).choose_spec.1]; exact hno j hj)]
      simp [hn]
    refine ⟨⟨sb, n * 256, none⟩, 256, rfl, Nat.le_refl _, ?_, hB⟩
    rw [hnow]
    exact safe_C (h.below hB) n hn
/-- Behind a read. -/
def readD (D : Dk) : Dk := { D with reads := wrap64 (D.reads + 1) }
theorem cnt_ok {D D' : Dk} (h : Ok D) (h1 : D'.safe = D.safe) (h2 : D'.waits = D.waits) (h3 : D'.left = D.left) : Ok D' := ⟨by rw [h1]; exact h.few, by rw [h1]; exact h.len, by rw [h1]; exact h.byte, by rw [h1, h2]; exact h.at_, by rw [h3]; exact h.left⟩
theorem lastW_mem : ∀ (ws : List (Int × List Int)) (n : Int) (b : List Int), lastW ws n = some b → ∃ p ∈ ws, p.1 = n ∧ p.2 = b
  | p :: ws, n, b, h => by
    unfold lastW at h
    split at h
    · rename_i c hc
      obtain ⟨q, h1, h2⟩ := lastW_mem ws n c hc
      cases h
      exact ⟨q, List.mem_cons_of_mem _ h1, h2⟩
    · split at h
      · rename_i h1
        cases h
        exact ⟨p, List.mem_cons_self, h1, rfl⟩
      · cases h
theorem now_len {D : Dk} (h : Ok D) (n : Int) (hn : 0 ≤ n ∧ n < D.safe.length) : (nowD D n).length = 256 ∧ ∀ x ∈ nowD D n, 0 ≤ x ∧ x ≤ 255 := by
  unfold nowD
  cases hl : lastW D.waits n with
  | some b =>
    obtain ⟨p, h1, h2, rfl⟩ := lastW_mem _ _ _ hl
    exact (h.at_ p h1).2.2
  | none =>
    have hlt : n.toNat < D.safe.length := by omega
    have e : (none : Option (List Int)).getD (D.safe.getD n.toNat []) = D.safe[n.toNat] := by simp [hlt]
    rw [e]
    exact ⟨h.len _ (List.getElem_mem hlt), h.byte _ (List.getElem_mem hlt)⟩
set_option maxHeartbeats 8000000 in
set_option maxRecDepth 100000 in
theorem read_no {w : World} {base db sb : Nat} {D : Dk} (h : PD w base db sb D) (N : Int) (hr : ready D N ≠ 0) :
    Calls Try.prog 13 #[.pointer (some ⟨db, 0, none⟩), .int .i64 N] w fun e w' => e = .returned (.tuple #[.slice none 0 0, .int .i64 (ready D N)]) ∧ w' = w := by
  obtain ⟨r, hrr⟩ : ∃ r, r = ready D N := ⟨_, rfl⟩
  rw [← hrr] at hr ⊢
  have HR := Aside0.mk hrr
  clear hrr
  have hb : (r != 0) = true := by simpa using hr
  go_enter Try.func13, Try.ntmps13
  go_wp2_with fail
  refine (ready_any N h).mono ?_
  rintro e w1 ⟨rfl, rfl⟩
  rw [← HR.out]
  go_wp2_with fail
  go_ret2
  exact ⟨rfl, rfl⟩
set_option maxHeartbeats 8000000 in
set_option maxRecDepth 100000 in
theorem read_yes {w : World} {base db sb : Nat} {D : Dk} (h : PD w base db sb D) (N : Int) (hr : ready D N = 0) (hfew : D.waits.length ≤ 1000000000) :
    Calls Try.prog 13 #[.pointer (some ⟨db, 0, none⟩), .int .i64 N] w fun e w' => ∃ v, e = .returned (.tuple #[v, .int .i64 0]) ∧ Kd.R (Kd.int .u8) 5 w' w.heap.size (fun _ => True) v (nowD D N) ∧ PD w' base db sb (readD D) ∧ FP base db sb w w' := by
  have hN : 0 ≤ N ∧ N < D.safe.length := by
    unfold ready at hr
    split at hr
    · omega
    · split at hr
      · omega
      · omega
  have HNL := Aside0.mk (now_len h.ok N hN)
  have HP := Aside0.mk h
  have HR := Aside0.mk hr
  obtain ⟨vw, cs, sp, hx⟩ := h
  have c4 : w.cell? ⟨db, 4, none⟩ = some (.int .i64 D.reads) := cell_blk hx.cells
  have f4 : w.frozen? ⟨db, 4, none⟩ = false := frozen_blk hx.cells
  have HX := Aside0.mk hx
  clear hx hr
  go_enter Try.func13, Try.ntmps13
  go_wp2_with fail
  refine (ready_any N HP.out).mono ?_
  rintro e w1 ⟨rfl, rfl⟩
  rw [HR.out]
  go_wp2_with fail
  refine (add_at _ db 4 D.reads 1 c4 f4).mono ?_
  rintro e w2 ⟨rfl, hw2⟩
  have hp2 : PD w2 base db sb (readD D) := ⟨vw, cs, sp, by rw [hw2]; exact HX.out.put 4 _ (D' := readD D) (cnt_ok HX.out.ok rfl rfl rfl) rfl rfl rfl⟩
  have hf2 : FP base db sb w1 w2 := by rw [hw2]; exact .set _ _ _ _ (.inl rfl)
  have HP2 := Aside0.mk hp2
  have HF2 := Aside0.mk hf2
  have hs2 : w1.heap.size ≤ w2.heap.size := hf2.size
  clear hw2 hp2 hf2 c4 f4
  go_wp2_with fail
  refine (now_any HP2.out N hN hfew).mono ?_
  rintro e w3 ⟨a, c, rfl, hc, hC, hB⟩
  have HC3 := Aside0.mk hC
  have HB3 := Aside0.mk hB
  have hs3 : w2.heap.size ≤ w3.heap.size := hB.size
  clear hC hB
  go_wp2_with fail
  have hnl := HNL.out.1
  have hC4 := HC3.out
  rw [show nowD (readD D) N = nowD D N from rfl, ← hnl] at hC4
  have hcl := clone8 (w := w3) a c (nowD D N) hC4 (by omega)
  rw [hnl] at hcl
  refine hcl.mono ?_
  rintro e w4 ⟨v, rfl, hr4, _, hb4⟩
  have HR4 := Aside0.mk hr4
  have HB4 := Aside0.mk hb4
  clear hr4 hb4 hC4 hcl
  go_wp2_with fail
  go_ret2
  have hbb := HB3.out.trans (HB4.out.mono HB3.out.size)
  exact ⟨_, rfl, Kd.R_lower HR4.out (by omega), HP2.out.below hbb, HF2.out.trans (.of_below hbb)⟩
end Disk
end Go.Proofs.Ytooemgcijbdilaa
