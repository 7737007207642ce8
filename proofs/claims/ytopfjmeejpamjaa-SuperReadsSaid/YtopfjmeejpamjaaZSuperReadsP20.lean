/- Part 21 of the proof of SuperReads: lemmas alone. -/
import Derived.Test.YtopfjmeejpamjaaZSuperReadsP16
import Derived.Test.YtopfjmeejpamjaaZSuperReadsP19
import Derived.KernelRfl
section
namespace Go.Proofs.Ytopfjmeejpamjaa
set_option linter.unusedVariables false
set_option linter.unusedSimpArgs false
set_option linter.ambiguousOpen false
open Go.RowKit Go.Proofs.YtopfjmeejpamjaaW.PrintWords Go.Proofs.YtopfjmeejpamjaaW.PrintLast Go.Proofs.YtopfjmeejpamjaaW.PrintMore
namespace Supr
open Go.Num Go.Crc Go.Proofs.Ytopfjmeejpamjaa.Cell Go.Proofs.Ytopfjmeejpamjaa.Sect
def zerosB (l : List Int) : Bool := l.all (fun x => x == 0)
set_option maxRecDepth 100000 in
theorem zero_any (x : Int) (w : World) : Calls Try.prog 50 #[.int .u8 x] w fun e w' => e = .returned (.bool (x == 0)) ∧ w' = w := by
  go_enter Try.func50, Try.ntmps50
  go_wp2_with fail
  go_ret
  exact ⟨rfl, rfl⟩
set_option maxRecDepth 100000 in
theorem notzero_any (x : Int) (w : World) : Calls Try.prog 49 #[.int .u8 x] w fun e w' => e = .returned (.bool (!(x == 0))) ∧ w' = w := by
  obtain ⟨z, hz⟩ : ∃ z, z = (x == 0) := ⟨_, rfl⟩
  have h0 := zero_any x w
  rw [← hz] at h0 ⊢
  have H0 := Aside0.mk h0
  clear hz h0
  go_enter Try.func49, Try.ntmps49
  go_wp2_with fail
  refine H0.out.mono ?_
  rintro e w1 ⟨rfl, rfl⟩
  go_wp2_with fail
  go_ret
  exact ⟨rfl, rfl⟩
set_option maxHeartbeats 8000000 in
set_option maxRecDepth 100000 in
theorem index_any {w : World} (A : Option Addr) (c : Nat) (l : List Int) (hC : Kd.C (Kd.int .u8) w A l.length l) (hl : l.length ≤ 200000) :
    Calls Try.prog 82 #[.slice A l.length c, .func (.func 49) #[] #[]] w fun e w' => ∃ i : Int, e = .returned (.int .i64 i) ∧ decide (0 ≤ i) = !zerosB l ∧ w' = w := by
  have HC := Aside0.mk hC
  have HL := Aside0.mk hl
  obtain ⟨n, hn⟩ : ∃ n, n = l.length := ⟨_, rfl⟩
  have HN := Aside0.mk hn
  rw [← hn]
  clear hC hl hn
  go_enter Try.func82, Try.ntmps82
  go_wp2_with fail
  go_loopg [8] n (fun gk v8 wr => ∃ (i : Nat), Aside0 (i + gk = n) ∧ v8 = .int .i64 i ∧ Aside0 (∀ j (h : j < l.length), j < i → l[j] = 0) ∧ wr = w)
  case atStart => exact ⟨0, ⟨by omega⟩, rfl, ⟨fun j _ h => absurd h (by omega)⟩, rfl⟩
  case round =>
    obtain ⟨i, HI, rfl, HZ, rfl⟩ := hrel
    by_cases hi : i < n
    · have hil : i < l.length := by rw [← HN.out]; exact hi
      obtain ⟨ad, hadA, hc0⟩ := Kd.at_int HC.out (i : Int) (by omega) (by omega)
      cases hadA
      rw [Int.toNat_natCast] at hc0
      obtain ⟨x, hx⟩ : ∃ x, x = rd l (i : Int) := ⟨_, rfl⟩
      rw [← hx] at hc0
      have HX := Aside0.mk hx
      have hii : (i : Int) < (n : Int) := by omega
      clear hx hil
      go_wp2_with fail
      by_cases h0 : x = 0
      · subst h0
        refine (notzero_any 0 _).mono ?_
        rintro e w1 ⟨rfl, hw1⟩
        obtain rfl : w1 = wr := hw1
        go_wp2_with fail
        go_roundg (n - (i + 1))
        case measure => have := HI.out; omega
        case rel =>
          refine ⟨i + 1, ⟨by have := HI.out; omega⟩, ?_, ⟨fun j hj hji => ?_⟩, rfl⟩
          · have := HL.out; have := HN.out
            rw [show wrap64 ((i : Int) + 1) = ((i + 1 : Nat) : Int) by unfold wrap64; omega]
          · rcases Nat.lt_succ_iff_lt_or_eq.1 hji with h | h
            · exact HZ.out j hj h
            · subst h; rw [← rd_get j hj]; exact HX.out.symm
      · have hb : (x == 0) = false := by simpa using h0
        have HNZ := Aside0.mk (show zerosB l = false by
          cases hz : zerosB l with
          | false => rfl
          | true =>
            unfold zerosB at hz
            rw [List.all_eq_true] at hz
            have hil : i < l.length := by rw [← HN.out]; exact hi
            have := hz l[i] (List.getElem_mem _)
            rw [← rd_get i hil, ← HX.out] at this
            exact absurd (by simpa using this) h0)
        have hnz := notzero_any x wr
        rw [hb] at hnz
        refine hnz.mono ?_
        rintro e w1 ⟨rfl, hw1⟩
        obtain rfl : w1 = wr := hw1
        clear hnz
        go_wp2_with fail
        go_ret
        exact ⟨i, rfl, by rw [HNZ.out]; simp, rfl⟩
    · have hi2 : i = n := by have := HI.out; omega
      subst hi2
      have HNZ := Aside0.mk (show zerosB l = true by
        unfold zerosB
        rw [List.all_eq_true]
        intro y hy
        obtain ⟨j, hj, rfl⟩ := List.mem_iff_getElem.1 hy
        rw [HZ.out j hj (by rw [HN.out]; exact hj)]
        rfl)
      clear hi
      go_wp2_with fail
      go_ret
      exact ⟨-1, rfl, by rw [HNZ.out]; rfl, rfl⟩
set_option maxHeartbeats 8000000 in
set_option maxRecDepth 100000 in
theorem contains_any {w : World} (A : Option Addr) (c : Nat) (l : List Int) (hC : Kd.C (Kd.int .u8) w A l.length l) (hl : l.length ≤ 200000) :
    Calls Try.prog 48 #[.slice A l.length c, .func (.func 49) #[] #[]] w fun e w' => e = .returned (.bool (!zerosB l)) ∧ w' = w := by
  obtain ⟨n, hn⟩ : ∃ n, n = l.length := ⟨_, rfl⟩
  have hix := index_any A c l hC hl
  obtain ⟨z, hz⟩ : ∃ z, z = (!zerosB l) := ⟨_, rfl⟩
  rw [← hn, ← hz] at hix
  rw [← hn, ← hz]
  have HX := Aside0.mk hix
  clear hix hz hC hl hn
  go_enter Try.func48, Try.ntmps48
  go_wp2_with fail
  refine HX.out.mono ?_
  rintro e w1 ⟨i, rfl, rfl, rfl⟩
  go_wp2_with fail
  go_ret
  exact ⟨rfl, rfl⟩
theorem PDx_other {w : World} {base db sb cs : Nat} {D : Go.Disk.Dk} {vw : Value} {sp : List Value} (h : Disk.PDx w base db sb D vw cs sp) {ub : Nat} {uc : Array Value} (hu : w.heap[ub]? = some (.cells uc 25 (0, 0))) (k : Nat) (v : Value) : Disk.PDx (w.setCell ⟨ub, k, none⟩ v) base db sb D vw cs sp :=
  ⟨h.ok, h.dbase, h.sbase, h.wown, (Below.heap_setCell _ _ _ _ (tag_ne h.cells hu (by decide))).trans h.cells, Kd.R_set h.waits hu (by decide) k v, (Below.heap_setCell _ _ _ _ (tag_ne h.safe hu (by decide))).trans h.safe, h.room⟩
theorem PD_six {w : World} {base db sb : Nat} {D : Go.Disk.Dk} (h : Disk.PD w base db sb D) {ub : Nat} {a0 a1 a2 a3 a4 a5 : Value} (hu : w.heap[ub]? = some (.cells #[a0, a1, a2, a3, a4, a5] 25 (0, 0))) (v0 v1 v2 v3 v4 v5 : Value) : Disk.PD ((((((w.setCell ⟨ub, 0, none⟩ v0).setCell ⟨ub, 1, none⟩ v1).setCell ⟨ub, 2, none⟩ v2).setCell ⟨ub, 3, none⟩ v3).setCell ⟨ub, 4, none⟩ v4).setCell ⟨ub, 5, none⟩ v5) base db sb D := by
  obtain ⟨vw, cs, sp, h⟩ := h
  have h1 := blk_set hu 0 v0
  have h2 := blk_set h1 1 v1
  have h3 := blk_set h2 2 v2
  have h4 := blk_set h3 3 v3
  have h5 := blk_set h4 4 v4
  exact ⟨vw, cs, sp, PDx_other (PDx_other (PDx_other (PDx_other (PDx_other (PDx_other h hu 0 v0) h1 1 v1) h2 2 v2) h3 3 v3) h4 4 v4) h5 5 v5⟩
theorem Fr_then {bs : Nat → Prop} {ts : Nat → Nat → Prop} {x y z : World} (h : Disk.Fr bs ts x y) (k : Below x.heap.size y z) : Disk.Fr bs ts x z :=
  ⟨k.os.trans h.os, k.tape.trans h.tape, k.output.trans h.output, Nat.le_trans h.size k.size, fun i hi hne ht => (k.block i hi).trans (h.block i hi hne ht)⟩
theorem pd_tags {w : World} {base db sb : Nat} {D : Go.Disk.Dk} (h : Disk.PD w base db sb D) : (∃ cs, w.heap[db]? = some (.cells cs 91 (0, 0))) ∧ (∃ cs, w.heap[sb]? = some (.cells cs 5 (0, 0))) := by
  obtain ⟨vw, cs, sp, h⟩ := h
  exact ⟨⟨_, h.cells⟩, _, h.safe⟩
theorem keep_super {w w' : World} {base db sb ub : Nat} {D : Go.Disk.Dk} {uc : Array Value} (h : Disk.PD w base db sb D) (f : Disk.FP base db sb w w') (hu : w.heap[ub]? = some (.cells uc 25 (0, 0))) : w'.heap[ub]? = some (.cells uc 25 (0, 0)) := by
  obtain ⟨⟨_, h1⟩, _, h2⟩ := pd_tags h
  exact (f.block ub (blk_lt hu) (fun e => e.elim (fun e => tag_ne hu h1 (by decide) e) (fun e => tag_ne hu h2 (by decide) e)) (fun c t fz hc e => by
    rw [hu] at hc
    cases hc
    exact absurd e.2 (by decide))).trans hu
def better (n : Nat) (best : SU) (k : Int) (r : SU × Int) : SU := if r.2 = 0 ∧ r.1.b = n ∧ Int.tmod r.1.g 2 = k ∧ best.g < r.1.g then r.1 else best
def scanU (D : Go.Disk.Dk) : Nat → Go.Disk.Dk × SU × Bool
  | 0 => (D, zeroU, true)
  | k + 1 => (Disk.readF (scanU D k).1 k, better D.safe.length (scanU D k).2.1 k (getU ((Disk.readV (scanU D k).1 k).take 64)), (scanU D k).2.2 && zerosB (Disk.readV (scanU D k).1 k))
def readU (D : Go.Disk.Dk) : SU × Int := if Go.Disk.ready D 0 ≠ 0 then (zeroU, Go.Disk.ready D 0) else ((scanU D 2).2.1, if 0 < (scanU D 2).2.1.g then 0 else if (scanU D 2).2.2 then 6 else 13)
def readDk (D : Go.Disk.Dk) : Go.Disk.Dk := if Go.Disk.ready D 0 ≠ 0 then D else (scanU D 2).1
structure RU (w0 w : World) (base db sb bb : Nat) (D : Go.Disk.Dk) (best : SU) : Prop where
  fp : Disk.FP base db sb w0 w
  zero : w.heap[w0.heap.size]? = some (.cells (sixU 0 0 0 0 0 0) 25 (0, 0))
  best : w.heap[bb]? = some (.cells (sixU best.g best.b best.l best.p best.q best.o) 25 (0, 0))
  pd : Disk.PD w base db sb D
  far : w0.heap.size < bb
theorem RU.step {w0 w w' : World} {base db sb bb : Nat} {D : Go.Disk.Dk} {best : SU} (h : RU w0 w base db sb bb D best) (f : Below w.heap.size w w') : RU w0 w' base db sb bb D best :=
  ⟨h.fp.trans (.of_below f), (f.block _ (blk_lt h.zero)).trans h.zero, (f.block _ (blk_lt h.best)).trans h.best, h.pd.below f, h.far⟩
theorem RU.read {w0 w w' : World} {base db sb bb : Nat} {D D' : Go.Disk.Dk} {best : SU} (h : RU w0 w base db sb bb D best) (f : Disk.FP base db sb w w') (p : Disk.PD w' base db sb D') : RU w0 w' base db sb bb D' best :=
  ⟨h.fp.trans f, keep_super h.pd f h.zero, keep_super h.pd f h.best, p, h.far⟩
theorem RU.set {w0 w : World} {base db sb bb : Nat} {D : Go.Disk.Dk} {best : SU} (h : RU w0 w base db sb bb D best) (s : SU) : RU w0 ((((((w.setCell ⟨bb, 0, none⟩ (.int .i64 s.g)).setCell ⟨bb, 1, none⟩ (.int .i64 s.b)).setCell ⟨bb, 2, none⟩ (.int .i64 s.l)).setCell ⟨bb, 3, none⟩ (.int .i64 s.p)).setCell ⟨bb, 4, none⟩ (.int .i64 s.q)).setCell ⟨bb, 5, none⟩ (.int .i64 s.o)) base db sb bb D s :=
  ⟨Fr_then h.fp (six_below (Below.refl _ w) (Nat.le_of_lt h.far) _ _ _ _ _ _), (six_but _ _ _ _ _ _ _ (Nat.ne_of_lt h.far)).trans h.zero, six_set h.best _ _ _ _ _ _, PD_six h.pd h.best _ _ _ _ _ _, h.far⟩
theorem ready_two (D : Go.Disk.Dk) (h : Go.Disk.Ok D) (k : Nat) (hk : k < 2) : Go.Disk.ready D k = Go.Disk.ready D 0 := by
  have := h.few
  unfold Go.Disk.ready
  cases D.off with
  | true => rfl
  | false =>
    simp only [Bool.false_eq_true, if_false]
    rw [if_neg (by omega), if_neg (by omega)]
theorem readF_same (D : Go.Disk.Dk) (k : Int) : (Disk.readF D k).safe = D.safe ∧ (Disk.readF D k).off = D.off ∧ (Disk.readF D k).waits = D.waits := by
  unfold Disk.readF
  split <;> exact ⟨rfl, rfl, rfl⟩
theorem scan_same (D : Go.Disk.Dk) : ∀ k, (scanU D k).1.safe = D.safe ∧ (scanU D k).1.off = D.off ∧ (scanU D k).1.waits = D.waits
  | 0 => ⟨rfl, rfl, rfl⟩
  | k + 1 => by
    obtain ⟨h1, h2, h3⟩ := readF_same (scanU D k).1 k
    obtain ⟨k1, k2, k3⟩ := scan_same D k
    exact ⟨h1.trans k1, h2.trans k2, h3.trans k3⟩
theorem ready_same {D E : Go.Disk.Dk} (h1 : E.safe = D.safe) (h2 : E.off = D.off) (n : Int) : Go.Disk.ready E n = Go.Disk.ready D n := by
  unfold Go.Disk.ready
  rw [h1, h2]
end Supr
end Go.Proofs.Ytopfjmeejpamjaa
end
section
namespace Go.Proofs.Ytopfjmeejpamjaa
set_option linter.unusedVariables false
set_option linter.unusedSimpArgs false
set_option linter.ambiguousOpen false
open Go.RowKit Go.Proofs.YtopfjmeejpamjaaW.PrintWords Go.Proofs.YtopfjmeejpamjaaW.PrintLast Go.Proofs.YtopfjmeejpamjaaW.PrintMore
namespace Supr
open Go.Num Go.Crc Go.Proofs.Ytopfjmeejpamjaa.Cell Go.Proofs.Ytopfjmeejpamjaa.Sect
theorem head_C {w : World} {a : Addr} {l : List Int} (h : Kd.C (Kd.int .u8) w (some a) l.length l) (m : Nat) (hm : m ≤ l.length) : Kd.C (Kd.int .u8) w (some a) m (l.take m) := by
  have := mid_C h 0 m (by omega)
  rw [List.drop_zero, show a.add 0 = a by unfold Addr.add; split <;> simp_all] at this
  exact this
set_option maxHeartbeats 16000000 in
set_option maxRecDepth 100000 in
theorem sread_any {w : World} {base db sb : Nat} {D : Go.Disk.Dk} (h : Disk.PD w base db sb D) (hfew : D.waits.length ≤ 1000000) :
    Calls Try.prog 18 #[.pointer (some ⟨db, 0, none⟩)] w fun r w' => r = .returned (.tuple #[(readU D).1.v, .int .i64 (readU D).2]) ∧ Disk.PD w' base db sb (readDk D) ∧ Disk.FP base db sb w w' := by
  have HP := Aside0.mk h
  have HFW := Aside0.mk hfew
  have HOK := Aside0.mk h.ok
  obtain ⟨w1, hw1⟩ : ∃ w1, w1 = (w.alloc (.cells (sixU 0 0 0 0 0 0) 25)).alloc (.cells (sixU 0 0 0 0 0 0) 25) := ⟨_, rfl⟩
  have b1 : Below w.heap.size w w1 := by rw [hw1]; exact ((Below.refl _ _).alloc (Nat.le_refl _) _).alloc (by simp) _
  have HRU := Aside0.mk (show RU w w1 base db sb (w.heap.size + 1) D zeroU from ⟨.of_below b1, by
    rw [hw1, Below.heap_alloc _ _ _ (by simp)]
    exact heap_alloc_new w _, by
    rw [hw1]
    have := heap_alloc_new (w.alloc (.cells (sixU 0 0 0 0 0 0) 25)) (.cells (sixU 0 0 0 0 0 0) 25)
    rw [World.size_alloc] at this
    exact this, h.below b1, by omega⟩)
  have HW1 := Aside0.mk hw1
  clear h hfew hw1 b1
  obtain ⟨rd0, hrd⟩ : ∃ z, z = Go.Disk.ready D 0 := ⟨_, rfl⟩
  by_cases hr0 : rd0 ≠ 0
  · have HV := Aside0.mk (show readU D = (zeroU, rd0) by unfold readU; rw [if_pos (by rw [← hrd]; exact hr0), hrd])
    have HD := Aside0.mk (show readDk D = D by unfold readDk; rw [if_pos (by rw [← hrd]; exact hr0)])
    have HR0 := Aside0.mk hrd
    clear hrd
    go_enter Try.func18, Try.ntmps18
    go_wp2_with fail
    rw [← HW1.out]
    go_loopg [10, 5] 2 (fun gk v10 v5 wr => gk = 2 ∧ v10 = .int .i64 0 ∧ v5 = .bool true ∧ wr = w1)
    case atStart => exact ⟨rfl, rfl, rfl, rfl⟩
    case round =>
      obtain ⟨rfl, rfl, rfl, rfl⟩ := hrel
      go_wp2_with fail
      have hrd := Disk.read_no HRU.out.pd 0 (by rw [← HR0.out]; exact hr0)
      rw [← HR0.out] at hrd
      refine hrd.mono ?_
      clear hrd
      rintro r w2 ⟨rfl, hw2⟩
      obtain rfl : w2 = wr := hw2
      obtain ⟨⟨p0, p1, p2, p3, p4, p5⟩, q0, q1, q2, q3, q4, q5⟩ := cells6 HRU.out.zero
      obtain ⟨⟨e0, e1, e2, e3, e4, e5⟩, _⟩ := cells6 HRU.out.best
      go_wp2_with fail
      refine bodyPost_ret (results_ct rfl _ _ w.heap.size 25 (sixU 0 0 0 0 0 0) (0, 0) _ rfl (six_set HRU.out.zero _ _ _ _ _ _) Try.underlying25 rfl (by kernel_rfl)) rfl ?_
      exact ⟨by rw [HV.out]; rfl, by rw [HD.out]; exact PD_six HRU.out.pd HRU.out.zero _ _ _ _ _ _, Fr_then HRU.out.fp (six_below (Below.refl _ _) (Nat.le_refl _) _ _ _ _ _ _)⟩
  · have hr1 : rd0 = 0 := Classical.byContradiction hr0
    rw [hr1] at hrd
    have HR0 := Aside0.mk hrd
    have HV := Aside0.mk (show readU D = ((scanU D 2).2.1, if 0 < (scanU D 2).2.1.g then 0 else if (scanU D 2).2.2 then 6 else 13) by unfold readU; rw [if_neg (by rw [← hrd]; decide)])
    have HD := Aside0.mk (show readDk D = (scanU D 2).1 by unfold readDk; rw [if_neg (by rw [← hrd]; decide)])
    clear hrd hr1 hr0 rd0
    go_enter Try.func18, Try.ntmps18
    go_wp2_with fail
    rw [← HW1.out]
    obtain ⟨bb, hbb⟩ : ∃ bb, bb = w.heap.size + 1 := ⟨_, rfl⟩
    rw [← hbb] at HRU ⊢
    clear hbb HW1 HP
    go_loopg [10, 5] 2 (fun gk v10 v5 wr => ∃ (i : Nat) (bl : Bool) (best : SU) (E : Go.Disk.Dk), Aside0 (i + gk = 2) ∧ v10 = .int .i64 i ∧ v5 = .bool bl ∧ Aside0 (scanU D i = (E, best, bl)) ∧ Aside0 (RU w wr base db sb bb E best))
    case atStart => exact ⟨0, true, zeroU, D, ⟨by omega⟩, rfl, rfl, ⟨rfl⟩, HRU⟩
    case round =>
      clear HRU
      obtain ⟨i, bl, best, E, HI, rfl, rfl, HS, HRU⟩ := hrel
      by_cases hi : i < 2
      · have hii : (i : Int) < 2 := by omega
        have HSM := Aside0.mk (scan_same D i)
        rw [HS.out] at HSM
        have HRI := Aside0.mk (show Go.Disk.ready E i = 0 by
          rw [ready_same HSM.out.1 HSM.out.2.1, ready_two D HOK.out i hi]
          exact HR0.out.symm)
        obtain ⟨V, hV⟩ : ∃ V, V = Disk.readV E i := ⟨_, rfl⟩
        have hvl := Disk.now_len HRU.out.pd.ok (i : Int) (by
          have := HRI.out
          unfold Go.Disk.ready at this
          have h16 := HRU.out.pd.ok.few
          omega)
        rw [show Disk.nowD E i = V by rw [hV]; unfold Disk.readV; rw [if_pos HRI.out]] at hvl
        have HVL := Aside0.mk hvl
        have HS1 := Aside0.mk (show scanU D (i + 1) = (Disk.readF E i, better D.safe.length best i (getU (V.take 64)), bl && zerosB V) by
          rw [hV]
          show (Disk.readF (scanU D i).1 i, better D.safe.length (scanU D i).2.1 i (getU ((Disk.readV (scanU D i).1 i).take 64)), (scanU D i).2.2 && zerosB (Disk.readV (scanU D i).1 i)) = _
          rw [HS.out])
        have hrd := Disk.read_uni HRU.out.pd (i : Int) (by rw [HSM.out.2.2]; have := HFW.out; omega)
        rw [HRI.out, ← hV] at hrd
        have HRD := Aside0.mk hrd
        clear hvl hV hrd HS
        go_wp2_with fail
        refine HRD.out.mono ?_
        clear HRD
        rintro r w2 ⟨v2, rfl, hr2, hp2, hf2⟩
        have HRU2 := Aside0.mk (HRU.out.read hf2 hp2)
        obtain ⟨A2, c2, rfl⟩ := Kd.R_slice hr2
        have HC2 := Aside0.mk (Kd.R_reads' hr2)
        clear hr2 hp2 hf2 HRU
        rw [HVL.out.1] at HC2 ⊢
        go_upto_region 9 with (fail)
        obtain ⟨zb, hzb⟩ : ∃ z, z = zerosB V := ⟨_, rfl⟩
        have hct := contains_any A2 c2 V (by have := HC2.out.2.2; rw [← HVL.out.1] at this; exact this) (by rw [HVL.out.1]; decide)
        rw [← hzb, HVL.out.1] at hct
        rw [← hzb] at HS1
        have HCT := Aside0.mk hct
        clear hct hzb
        go_cut [5] from 23 to 28 (fun v5 wc => v5 = .bool (bl && zb) ∧ wc = w2)
        case first =>
          cases bl with
          | true =>
            go_wp2_with fail
            refine HCT.out.mono ?_
            rintro r w3 ⟨rfl, hw3⟩
            obtain rfl : w3 = w2 := hw3
            go_wp2_with fail
            go_meet
            case rel => exact ⟨by cases zb <;> rfl, rfl⟩
          | false =>
            go_wp2_with fail
            go_meet
            case rel => exact ⟨rfl, rfl⟩
        case rest =>
          obtain ⟨rfl, hwc⟩ := hcut
          obtain rfl : wc = w2 := hwc
          clear HCT
          obtain ⟨a2, rfl⟩ : ∃ a, A2 = some a := by obtain ⟨a, ha, _⟩ := HC2.out.2.2.2.2 (by decide); exact ⟨a, ha⟩
          have hc64 : 64 ≤ c2 := by have := HC2.out.2.1; omega
          have hl64 : (V.take 64).length = 64 := by rw [List.length_take, HVL.out.1]; decide
          have hg := sget_any (w := wc) (some a2) c2 (V.take 64) (by rw [hl64]; have := HC2.out.2.2; rw [← HVL.out.1] at this; exact head_C this 64 (by rw [HVL.out.1]; decide)) (fun y hy => HVL.out.2 y (List.mem_of_mem_take hy)) (by rw [hl64]; exact hc64) (by rw [hl64]; decide)
          rw [hl64] at hg
          obtain ⟨r, hr⟩ : ∃ r, r = getU (V.take 64) := ⟨_, rfl⟩
          rw [← hr] at hg HS1
          have HG := Aside0.mk hg
          clear hg hr hl64
          obtain ⟨s, hs⟩ : ∃ s, s = r.1 := ⟨_, rfl⟩
          obtain ⟨q, hq⟩ : ∃ q, q = r.2 := ⟨_, rfl⟩
          have HBT := Aside0.mk (show better D.safe.length best i r = if q = 0 ∧ s.b = D.safe.length ∧ Int.tmod s.g 2 = i ∧ best.g < s.g then s else best by rw [hs, hq]; rfl)
          rw [← hs, ← hq] at HG
          clear hs hq
          go_upto_region 10 with (fail)
          go_wp2_with fail
          refine HG.out.mono ?_
          clear HG
          rintro y w3 ⟨rfl, b3⟩
          have HRU3 := Aside0.mk (HRU2.out.step b3)
          clear HRU2 b3 hc64
          go_upto_region 11 with (fail)
          obtain ⟨w4, hw4⟩ : ∃ w4, w4 = w3.alloc (.cells (sixU s.g s.b s.l s.p s.q s.o) 25) := ⟨_, rfl⟩
          have b4 : Below w3.heap.size w3 w4 := by rw [hw4]; exact (Below.refl _ _).alloc (Nat.le_refl _) _
          have HS4 := Aside0.mk (show w4.heap[w3.heap.size]? = some (.cells (sixU s.g s.b s.l s.p s.q s.o) 25 (0, 0)) by rw [hw4]; exact heap_alloc_new w3 _)
          have HRU4 := Aside0.mk (HRU3.out.step b4)
          rw [← hw4]
          obtain ⟨sx, hsx⟩ : ∃ sx, sx = w3.heap.size := ⟨_, rfl⟩
          rw [← hsx] at HS4 ⊢
          clear hw4 b4 hsx HRU3
          have HDR := Aside0.mk (HRU4.out.step (below_drew1 (Below.refl w4.heap.size w4)))
          have hbk := Disk.blocks_any HDR.out.pd
          rw [show (Disk.readF E i).safe.length = D.safe.length by rw [(readF_same E i).1, HSM.out.1]] at hbk
          obtain ⟨n, hn⟩ : ∃ n : Int, n = (D.safe.length : Int) := ⟨_, rfl⟩
          rw [← hn] at hbk HBT
          have HBK := Aside0.mk hbk
          clear hbk hn
          have m0 : ∀ m : Go.Reg.In (Below w4.heap.size w4), m.w.cell? ⟨sx, 0, none⟩ = some (.int .i64 s.g) := fun m => cell_blk ((m.h.block sx (blk_lt HS4.out)).trans HS4.out)
          have m1 : ∀ m : Go.Reg.In (Below w4.heap.size w4), m.w.cell? ⟨sx, 1, none⟩ = some (.int .i64 s.b) := fun m => cell_blk ((m.h.block sx (blk_lt HS4.out)).trans HS4.out)
          have m2 : ∀ m : Go.Reg.In (Below w4.heap.size w4), m.w.cell? ⟨bb, 0, none⟩ = some (.int .i64 best.g) := fun m => cell_blk ((m.h.block bb (blk_lt HRU4.out.best)).trans HRU4.out.best)
          by_cases c1 : q = 0
          · subst c1
            by_cases c2 : s.b = n
            · have c2b : (s.b == n) = true := by simpa using c2
              by_cases c3 : Int.tmod s.g 2 = i
              · have c3b : (Int.tmod s.g 2 == (i : Int)) = true := by simpa using c3
                by_cases c4 : best.g < s.g
                · have HNX := Aside0.mk (show better D.safe.length best i r = s by rw [HBT.out, if_pos ⟨rfl, c2, c3, c4⟩])
                  clear HBT c2 c3
                  refine Go.Reg.region (Below w4.heap.size w4) [.s, .s, .s, .s, .s, .s, .w, .s, .s, .s, .s, .s, .s, .s, .s, .s, .s, .s, .s, .s, .s, .s, .s] (by kernel_rfl) (by kernel_rfl) (below_drew1 (Below.refl _ _)) (fun ne => ?_)
                  refine Go.Reg.lex_q 6 _ _ _ _ (by rfl) ?_; simp only [List.take_succ_cons, List.take_zero, List.drop_succ_cons, List.drop_zero]; (repeat (go_big_quiet_step (rfl))); refine wpQuiet_nil ?_
                  refine Go.Reg.step_w (fun KK hKK => ?_)
                  go_wp2_with fail
                  refine HBK.out.mono ?_
                  rintro y w5 ⟨rfl, hw5⟩
                  obtain rfl : w5 = w4.drew := hw5
                  go_wp2_with fail
                  refine hKK.out _ _ (below_drew1 (Below.refl _ _)) ?_
                  clear hKK KK
                  refine Go.Reg.lex_q 16 _ _ _ _ (by rfl) ?_; simp only [List.take_succ_cons, List.take_zero, List.drop_succ_cons, List.drop_zero]; (repeat (go_big_quiet_step (rfl))); refine wpQuiet_nil ?_
                  refine Go.Reg.lex_nil ?_
                  clear m0 m1 m2
                  have HS5 := Aside0.mk (show w4.drew.heap[sx]? = some (.cells (sixU s.g s.b s.l s.p s.q s.o) 25 (0, 0)) from HS4.out)
                  obtain ⟨w5, hw5⟩ : ∃ w5, w5 = w4.drew := ⟨_, rfl⟩
                  rw [← hw5] at HDR HS5 ⊢
                  clear HBK HS4 HRU4 hw5
                  obtain ⟨⟨k0, k1, k2, k3, k4, k5⟩, _⟩ := cells6 HS5.out
                  obtain ⟨⟨e0, e1, e2, e3, e4, e5⟩, q0, q1, q2, q3, q4, q5⟩ := cells6 HDR.out.best
                  go_wp2_with fail
                  go_roundg (2 - (i + 1))
                  case measure => have := HI.out; omega
                  case rel => exact ⟨i + 1, bl && zb, s, Disk.readF E i, ⟨by have := HI.out; omega⟩, by go_num, rfl, ⟨by rw [HS1.out, HNX.out]⟩, ⟨HDR.out.set s⟩⟩
                · have c4b : decide (best.g < s.g) = false := decide_eq_false c4
                  have HNX := Aside0.mk (show better D.safe.length best i r = best by rw [HBT.out, if_neg (fun h => c4 h.2.2.2)])
                  clear HBT
                  refine Go.Reg.region (Below w4.heap.size w4) [.s, .s, .s, .s, .s, .s, .w, .s, .s, .s, .s, .s, .s, .s, .s, .s, .s, .s, .s, .s, .s, .s, .s] (by kernel_rfl) (by kernel_rfl) (below_drew1 (Below.refl _ _)) (fun ne => ?_)
                  refine Go.Reg.lex_q 6 _ _ _ _ (by rfl) ?_; simp only [List.take_succ_cons, List.take_zero, List.drop_succ_cons, List.drop_zero]; (repeat (go_big_quiet_step (rfl))); refine wpQuiet_nil ?_
                  refine Go.Reg.step_w (fun KK hKK => ?_)
                  go_wp2_with fail
                  refine HBK.out.mono ?_
                  rintro y w5 ⟨rfl, hw5⟩
                  obtain rfl : w5 = w4.drew := hw5
                  go_wp2_with fail
                  refine hKK.out _ _ (below_drew1 (Below.refl _ _)) ?_
                  clear hKK KK
                  refine Go.Reg.lex_q 16 _ _ _ _ (by rfl) ?_; simp only [List.take_succ_cons, List.take_zero, List.drop_succ_cons, List.drop_zero]; (repeat (go_big_quiet_step (rfl))); refine wpQuiet_nil ?_
                  refine Go.Reg.lex_nil ?_
                  clear m0 m1 m2
                  go_wp2_with fail
                  go_roundg (2 - (i + 1))
                  case measure => have := HI.out; omega
                  case rel => exact ⟨i + 1, bl && zb, best, Disk.readF E i, ⟨by have := HI.out; omega⟩, by go_num, rfl, ⟨by rw [HS1.out, HNX.out]⟩, HDR⟩
              · have c3b : (Int.tmod s.g 2 == (i : Int)) = false := by simpa using c3
                have HNX := Aside0.mk (show better D.safe.length best i r = best by rw [HBT.out, if_neg (fun h => c3 h.2.2.1)])
                clear HBT
                refine Go.Reg.region (Below w4.heap.size w4) [.s, .s, .s, .s, .s, .s, .w, .s, .s, .s, .s, .s, .s, .s, .s, .s, .s, .s, .s, .s, .s, .s, .s] (by kernel_rfl) (by kernel_rfl) (below_drew1 (Below.refl _ _)) (fun ne => ?_)
                refine Go.Reg.lex_q 6 _ _ _ _ (by rfl) ?_; simp only [List.take_succ_cons, List.take_zero, List.drop_succ_cons, List.drop_zero]; (repeat (go_big_quiet_step (rfl))); refine wpQuiet_nil ?_
                refine Go.Reg.step_w (fun KK hKK => ?_)
                go_wp2_with fail
                refine HBK.out.mono ?_
                rintro y w5 ⟨rfl, hw5⟩
                obtain rfl : w5 = w4.drew := hw5
                go_wp2_with fail
                refine hKK.out _ _ (below_drew1 (Below.refl _ _)) ?_
                clear hKK KK
                refine Go.Reg.lex_q 16 _ _ _ _ (by rfl) ?_; simp only [List.take_succ_cons, List.take_zero, List.drop_succ_cons, List.drop_zero]; (repeat (go_big_quiet_step (rfl))); refine wpQuiet_nil ?_
                refine Go.Reg.lex_nil ?_
                clear m0 m1 m2
                go_wp2_with fail
                go_roundg (2 - (i + 1))
                case measure => have := HI.out; omega
                case rel => exact ⟨i + 1, bl && zb, best, Disk.readF E i, ⟨by have := HI.out; omega⟩, by go_num, rfl, ⟨by rw [HS1.out, HNX.out]⟩, HDR⟩
            · have c2b : (s.b == n) = false := by simpa using c2
              have HNX := Aside0.mk (show better D.safe.length best i r = best by rw [HBT.out, if_neg (fun h => c2 h.2.1)])
              clear HBT
              refine Go.Reg.region (Below w4.heap.size w4) [.s, .s, .s, .s, .s, .s, .w, .s, .s, .s, .s, .s, .s, .s, .s, .s, .s, .s, .s, .s, .s, .s, .s] (by kernel_rfl) (by kernel_rfl) (below_drew1 (Below.refl _ _)) (fun ne => ?_)
              refine Go.Reg.lex_q 6 _ _ _ _ (by rfl) ?_; simp only [List.take_succ_cons, List.take_zero, List.drop_succ_cons, List.drop_zero]; (repeat (go_big_quiet_step (rfl))); refine wpQuiet_nil ?_
              refine Go.Reg.step_w (fun KK hKK => ?_)
              go_wp2_with fail
              refine HBK.out.mono ?_
              rintro y w5 ⟨rfl, hw5⟩
              obtain rfl : w5 = w4.drew := hw5
              go_wp2_with fail
              refine hKK.out _ _ (below_drew1 (Below.refl _ _)) ?_
              clear hKK KK
              refine Go.Reg.lex_q 16 _ _ _ _ (by rfl) ?_; simp only [List.take_succ_cons, List.take_zero, List.drop_succ_cons, List.drop_zero]; (repeat (go_big_quiet_step (rfl))); refine wpQuiet_nil ?_
              refine Go.Reg.lex_nil ?_
              clear m0 m1 m2
              go_wp2_with fail
              go_roundg (2 - (i + 1))
              case measure => have := HI.out; omega
              case rel => exact ⟨i + 1, bl && zb, best, Disk.readF E i, ⟨by have := HI.out; omega⟩, by go_num, rfl, ⟨by rw [HS1.out, HNX.out]⟩, HDR⟩
          · have c1b : (q == 0) = false := by simpa using c1
            have HNX := Aside0.mk (show better D.safe.length best i r = best by rw [HBT.out, if_neg (fun h => c1 h.1)])
            clear HBT
            refine Go.Reg.region (Below w4.heap.size w4) [.s, .s, .s, .s, .s, .s, .w, .s, .s, .s, .s, .s, .s, .s, .s, .s, .s, .s, .s, .s, .s, .s, .s] (by kernel_rfl) (by kernel_rfl) (below_drew1 (Below.refl _ _)) (fun ne => ?_)
            refine Go.Reg.lex_q 6 _ _ _ _ (by rfl) ?_; simp only [List.take_succ_cons, List.take_zero, List.drop_succ_cons, List.drop_zero]; (repeat (go_big_quiet_step (rfl))); refine wpQuiet_nil ?_
            refine Go.Reg.step_w (fun KK hKK => ?_)
            go_wp2_with fail
            refine hKK.out _ _ (below_drew1 (Below.refl _ _)) ?_
            clear hKK KK
            refine Go.Reg.lex_q 16 _ _ _ _ (by rfl) ?_; simp only [List.take_succ_cons, List.take_zero, List.drop_succ_cons, List.drop_zero]; (repeat (go_big_quiet_step (rfl))); refine wpQuiet_nil ?_
            refine Go.Reg.lex_nil ?_
            clear m0 m1 m2
            go_wp2_with fail
            go_roundg (2 - (i + 1))
            case measure => have := HI.out; omega
            case rel => exact ⟨i + 1, bl && zb, best, Disk.readF E i, ⟨by have := HI.out; omega⟩, by go_num, rfl, ⟨by rw [HS1.out, HNX.out]⟩, HDR⟩
      · have hi2 : i = 2 := by have := HI.out; omega
        subst hi2
        have HV2 := Aside0.mk (show readU D = (best, if 0 < best.g then 0 else if bl = true then 6 else 13) by rw [HV.out, HS.out])
        have HD2 := Aside0.mk (show readDk D = E by rw [HD.out, HS.out])
        obtain ⟨⟨p0, p1, p2, p3, p4, p5⟩, q0, q1, q2, q3, q4, q5⟩ := cells6 HRU.out.zero
        obtain ⟨⟨e0, e1, e2, e3, e4, e5⟩, _⟩ := cells6 HRU.out.best
        clear HV HD HS hi
        have HFIN := Aside0.mk (show ∀ C : Int, (C = if 0 < best.g then 0 else if bl = true then 6 else 13) → Ending.returned (.tuple #[best.v, .int .i64 C]) = Ending.returned (.tuple #[(readU D).1.v, .int .i64 (readU D).2]) from fun C hC => by rw [HV2.out, hC])
        by_cases hg : 0 < best.g
        · have HFX := Aside0.mk (HFIN.out 0 (by rw [if_pos hg]))
          clear HFIN HV2
          go_wp2_with fail
          refine bodyPost_ret (results_ct rfl _ _ w.heap.size 25 (sixU best.g best.b best.l best.p best.q best.o) (0, 0) _ rfl (six_set HRU.out.zero _ _ _ _ _ _) Try.underlying25 rfl (by kernel_rfl)) rfl ?_
          exact ⟨HFX.out, by rw [HD2.out]; exact PD_six HRU.out.pd HRU.out.zero _ _ _ _ _ _, Fr_then HRU.out.fp (six_below (Below.refl _ _) (Nat.le_refl _) _ _ _ _ _ _)⟩
        · cases bl with
          | true =>
            have HFX := Aside0.mk (HFIN.out 6 (by rw [if_neg hg]; rfl))
            clear HFIN HV2
            go_wp2_with fail
            refine bodyPost_ret (results_ct rfl _ _ w.heap.size 25 (sixU best.g best.b best.l best.p best.q best.o) (0, 0) _ rfl (six_set HRU.out.zero _ _ _ _ _ _) Try.underlying25 rfl (by kernel_rfl)) rfl ?_
            exact ⟨HFX.out, by rw [HD2.out]; exact PD_six HRU.out.pd HRU.out.zero _ _ _ _ _ _, Fr_then HRU.out.fp (six_below (Below.refl _ _) (Nat.le_refl _) _ _ _ _ _ _)⟩
          | false =>
            have HFX := Aside0.mk (HFIN.out 13 (by rw [if_neg hg]; rfl))
            clear HFIN HV2
            go_wp2_with fail
            refine bodyPost_ret (results_ct rfl _ _ w.heap.size 25 (sixU best.g best.b best.l best.p best.q best.o) (0, 0) _ rfl (six_set HRU.out.zero _ _ _ _ _ _) Try.underlying25 rfl (by kernel_rfl)) rfl ?_
            exact ⟨HFX.out, by rw [HD2.out]; exact PD_six HRU.out.pd HRU.out.zero _ _ _ _ _ _, Fr_then HRU.out.fp (six_below (Below.refl _ _) (Nat.le_refl _) _ _ _ _ _ _)⟩
end Supr
end Go.Proofs.Ytopfjmeejpamjaa
end
section
namespace Go.Proofs.Ytopfjmeejpamjaa
set_option linter.unusedVariables false
set_option linter.unusedSimpArgs false
set_option linter.ambiguousOpen false
open Go.RowKit Go.Proofs.YtopfjmeejpamjaaW.PrintWords Go.Proofs.YtopfjmeejpamjaaW.PrintLast Go.Proofs.YtopfjmeejpamjaaW.PrintMore
namespace Supr
open Go.Num Go.Crc Go.Proofs.Ytopfjmeejpamjaa.Cell Go.Proofs.Ytopfjmeejpamjaa.Sect
def blockU (s : SU) : List Int := s.put.1 ++ List.replicate 192 0
def writeU (D : Go.Disk.Dk) (s : SU) : Go.Disk.Dk × Int :=
  if s.ok = true ∧ s.b = D.safe.length then
    (if (Disk.writeD D (Int.tmod s.g 2) (blockU s)).2 ≠ 0 then Disk.writeD D (Int.tmod s.g 2) (blockU s) else (Disk.flushF (Disk.writeD D (Int.tmod s.g 2) (blockU s)).1, Disk.flushR (Disk.writeD D (Int.tmod s.g 2) (blockU s)).1))
  else (D, 1)
theorem block_byte (s : SU) : ∀ y ∈ blockU s, 0 ≤ y ∧ y ≤ 255 := by
  intro y hy
  rcases List.mem_append.1 hy with h | h
  · exact put_bytes _ _ _ _ _ _ y h
  · have := (List.mem_replicate.1 h).2; omega
theorem block_len {s : SU} (h : s.ok = true) : (blockU s).length = 256 := by
  unfold blockU
  rw [List.length_append, List.length_replicate, show s.put.1.length = 64 from put_yes_len h]
theorem write_waits (D : Go.Disk.Dk) (n : Int) (b : List Int) : (Disk.writeD D n b).1.waits.length ≤ D.waits.length + 1 := by
  have := Disk.waits_do D 2 n b false []
  unfold Disk.writeD
  split
  · exact Nat.le_succ _
  · split
    · exact Nat.le_succ _
    · split <;> simp [Disk.waits_deed, Disk.waitD]
set_option maxHeartbeats 16000000 in
set_option maxRecDepth 100000 in
theorem swrite_nil {w : World} (s : SU) : Calls Try.prog 15 #[.pointer none, s.v] w fun r w' => r = .returned (.int .i64 8) ∧ Below w.heap.size w w' := by
  go_enter Try.func15, Try.ntmps15
  go_wp2_with fail
  go_ret
  exact ⟨rfl, (Below.refl _ _).alloc (Nat.le_refl _) _⟩
structure WU (w0 w : World) (s : SU) : Prop where
  bel : Below w0.heap.size w0 w
  sup : w.heap[w0.heap.size]? = some (.cells (sixU s.g s.b s.l s.p s.q s.o) 25 (0, 0))
theorem WU.step {w0 w w' : World} {s : SU} (h : WU w0 w s) (f : Below w.heap.size w w') : WU w0 w' s :=
  ⟨h.bel.trans (f.mono h.bel.size), (f.block _ (blk_lt h.sup)).trans h.sup⟩
set_option maxHeartbeats 16000000 in
set_option maxRecDepth 100000 in
theorem swrite_any {w : World} {base db sb : Nat} {D : Go.Disk.Dk} (h : Disk.PD w base db sb D) (s : SU) (hfew : D.waits.length ≤ 900000) :
    Calls Try.prog 15 #[.pointer (some ⟨db, 0, none⟩), s.v] w fun r w' => r = .returned (.int .i64 (writeU D s).2) ∧ Disk.PD w' base db sb (writeU D s).1 ∧ Disk.FP base db sb w w' := by
  have HFW := Aside0.mk hfew
  obtain ⟨w1, hw1⟩ : ∃ w1, w1 = w.alloc (.cells (sixU s.g s.b s.l s.p s.q s.o) 25) := ⟨_, rfl⟩
  have b1 : Below w.heap.size w w1 := by rw [hw1]; exact (Below.refl _ _).alloc (Nat.le_refl _) _
  have HWU := Aside0.mk (show WU w w1 s from ⟨b1, by rw [hw1]; exact heap_alloc_new w _⟩)
  have HW1 := Aside0.mk hw1
  have HPD := Aside0.mk h
  clear h hfew hw1 b1
  obtain ⟨R, hR⟩ : ∃ R, R = writeU D s := ⟨_, rfl⟩
  rw [← hR]
  have HR := Aside0.mk hR
  have hput := sput_R (w := w1) s.g s.b s.l s.p s.q s.o
  obtain ⟨P, hP⟩ : ∃ P, P = putU s.g s.b s.l s.p s.q s.o := ⟨_, rfl⟩
  rw [← hP] at hput
  have HPU := Aside0.mk hput
  have HP := Aside0.mk hP
  clear hR hput hP
  by_cases hok : s.ok = true
  · have HOK := Aside0.mk hok
    have HC := Aside0.mk (show P = (P.1, 0) from Prod.ext rfl (by rw [HP.out, put_code, if_pos hok]))
    rw [HC.out] at HPU
    have HPL := Aside0.mk (show P.1.length = 64 by rw [HP.out]; exact put_yes_len hok)
    clear hok
    go_enter Try.func15, Try.ntmps15
    go_wp2_with fail
    rw [← HW1.out]
    refine HPU.out.mono ?_
    clear HPU HW1
    rintro r w2 ⟨v2, rfl, hr2, b2⟩
    have HWU2 := Aside0.mk (HWU.out.step b2)
    have HR2 := Aside0.mk (Kd.R_lower (base' := w.heap.size) hr2 HWU.out.bel.size)
    obtain ⟨A2, c2, rfl⟩ := Kd.R_slice hr2
    rw [HPL.out] at HR2 ⊢
    clear hr2 b2 HWU
    go_upto_region 6 with (fail)
    obtain ⟨n, hn⟩ : ∃ n : Int, n = (D.safe.length : Int) := ⟨_, rfl⟩
    have HNE := Aside0.mk hn
    clear hn
    go_cut [22] from 18 to 22 (fun v22 wc => v22 = .bool (s.b != n) ∧ wc = w2.drew)
    case first =>
      refine Go.Reg.region (Below w2.heap.size w2) [.s, .s, .s, .w, .p] (by kernel_rfl) (by kernel_rfl) (below_drew1 (Below.refl _ _)) (fun ne => ?_)
      have m1 : ∀ m : Go.Reg.In (Below w2.heap.size w2), m.w.cell? ⟨w.heap.size, 1, none⟩ = some (.int .i64 s.b) := fun m => cell_blk ((m.h.block _ (blk_lt HWU2.out.sup)).trans HWU2.out.sup)
      refine Go.Reg.lex_q 3 _ _ _ _ (by rfl) ?_; simp only [List.take_succ_cons, List.take_zero, List.drop_succ_cons, List.drop_zero]; (repeat (go_big_quiet_step (rfl))); refine wpQuiet_nil ?_
      refine Go.Reg.step_w (fun KK hKK => ?_)
      have hbk := Disk.blocks_any (HPD.out.below (HWU2.out.step (below_drew1 (Below.refl w2.heap.size w2))).bel)
      rw [← HNE.out] at hbk
      have HBK := Aside0.mk hbk
      clear hbk
      go_wp2_with fail
      refine HBK.out.mono ?_
      rintro y w5 ⟨rfl, hw5⟩
      obtain rfl : w5 = w2.drew := hw5
      go_wp2_with fail
      refine hKK.out _ _ (below_drew1 (Below.refl _ _)) ?_
      clear hKK KK
      refine Go.Reg.lex_qp 1 _ _ _ _ _ (by rfl) ?_; simp only [List.take_succ_cons, List.take_zero, List.drop_succ_cons, List.drop_zero]; (repeat (go_big_quiet_step (rfl))); refine wpQuiet_nil ?_
      refine Go.Reg.lex_nil ?_
      clear m1 HBK
      go_wp2_with fail
      go_meet
      case rel => exact ⟨rfl, rfl⟩
    case rest =>
      obtain ⟨rfl, rfl⟩ := hcut
      obtain ⟨w3, hw3⟩ : ∃ w3, w3 = w2.drew := ⟨_, rfl⟩
      have HWU3 := Aside0.mk (show WU w w3 s by rw [hw3]; exact HWU2.out.step (below_drew1 (Below.refl w2.heap.size w2)))
      have HR3 := Aside0.mk (show Kd.R (Kd.int .u8) 5 w3 w.heap.size (fun _ => True) (.slice A2 64 c2) P.1 by rw [hw3]; exact Kd.R_below HR2.out (below_drew1 (Below.refl w2.heap.size w2)))
      rw [← hw3]
      clear hw3 HWU2 HR2
      by_cases hbn : s.b = n
      · have hbb : (s.b != n) = false := by simp [hbn]
        rw [hbb]
        clear hbb
        have HRV := Aside0.mk (show R = if (Disk.writeD D (Int.tmod s.g 2) (blockU s)).2 ≠ 0 then Disk.writeD D (Int.tmod s.g 2) (blockU s) else (Disk.flushF (Disk.writeD D (Int.tmod s.g 2) (blockU s)).1, Disk.flushR (Disk.writeD D (Int.tmod s.g 2) (blockU s)).1) by rw [HR.out]; unfold writeU; rw [if_pos ⟨HOK.out, by rw [hbn, HNE.out]⟩])
        have HBL := Aside0.mk (show P.1 ++ List.replicate 192 0 = blockU s by rw [HP.out]; rfl)
        have HBLL := Aside0.mk (block_len HOK.out)
        clear hbn HR HNE HOK HP HC
        go_upto_region 8 with (fail)
        obtain ⟨W, hW⟩ : ∃ W, W = Disk.writeD D (Int.tmod s.g 2) (blockU s) := ⟨_, rfl⟩
        have HWF := Aside0.mk (show W.1.waits.length ≤ 1000000 by rw [hW]; have := write_waits D (Int.tmod s.g 2) (blockU s); have := HFW.out; omega)
        rw [← hW] at HRV
        have HWW := Aside0.mk hW
        clear hW
        go_cut [7] from 23 to 32 (fun v7 wc => v7 = .int .i64 W.2 ∧ Aside0 (Disk.PD wc base db sb W.1) ∧ Aside0 (Disk.FP base db sb w wc))
        case first =>
          refine Go.Reg.region (fun y => y.heap[w.heap.size]? = some (.cells (sixU s.g s.b s.l s.p s.q s.o) 25 (0, 0))) [.s, .s, .s, .s, .s, .s, .s, .s, .w, .w, .p] (by kernel_rfl) (by kernel_rfl) (show w3.drew.heap[w.heap.size]? = _ from HWU3.out.sup) (fun ne => ?_)
          have m0 : ∀ m : Go.Reg.In (fun y => y.heap[w.heap.size]? = some (.cells (sixU s.g s.b s.l s.p s.q s.o) 25 (0, 0))), m.w.cell? ⟨w.heap.size, 0, none⟩ = some (.int .i64 s.g) := fun m => cell_blk m.h
          refine Go.Reg.lex_q 8 _ _ _ _ (by rfl) ?_; simp only [List.take_succ_cons, List.take_zero, List.drop_succ_cons, List.drop_zero]; (repeat (go_big_quiet_step (rfl))); refine wpQuiet_nil ?_
          clear m0
          obtain ⟨w4, hw4⟩ : ∃ w4, w4 = w3.drew := ⟨_, rfl⟩
          have HWU4 := Aside0.mk (show WU w w4 s by rw [hw4]; exact HWU3.out.step (below_drew1 (Below.refl w3.heap.size w3)))
          have HR4 := Aside0.mk (show Kd.R (Kd.int .u8) 5 w4 w.heap.size (fun _ => True) (.slice A2 64 c2) P.1 by rw [hw4]; exact Kd.R_below HR3.out (below_drew1 (Below.refl w3.heap.size w3)))
          rw [← hw4]
          clear hw4 HWU3 HR3
          refine Go.Reg.step_w (fun KK hKK => ?_)
          go_wp2_with ((with_reducible refine gate_builtin (b := .append) (xs := #[.tmp 27, .tmp 30]) rfl ?_); at_builtin; refine Hid.out ?_)
          refine Lib.hid ?_
          refine Kd.R_append_zeros (Kd.int .u8) (w0 := w) w.heap.size rfl (.tmp 27) (.tmp 30) 26 3 5 (.int .u8 0) 1 rfl Try.underlying26 Try.underlying3 infoU8 rfl (by decide) (by omega) (.slice A2 64 c2) P.1 0 (kx := .i64) 192 (fun _ => True) rfl rfl rfl (fun _ _ => trivial) HR4.out (by omega) HWU4.out.bel HWU4.out.bel.size (by rw [HPL.out]; decide) ?_
          intro v5 w5 ho hb hg _
          rw [show (192 : Int).toNat = 192 from rfl, HBL.out] at ho
          have HWU5 := Aside0.mk (show WU w w5 s from ⟨hb, (hg.block _ (blk_lt HWU4.out.sup) (Kd.R_ne HR4.out HWU4.out.sup (by decide))).trans HWU4.out.sup⟩)
          obtain ⟨A5, c5, rfl⟩ := Kd.R_slice ho
          rw [HBLL.out] at ho ⊢
          have HR5 := Aside0.mk ho
          clear ho hb hg HWU4 HR4
          go_wp2_with fail
          refine hKK.out _ _ HWU5.out.sup ?_
          clear hKK KK
          refine Go.Reg.step_w (fun KK hKK => ?_)
          have hwr := Disk.write_uni (HPD.out.below HWU5.out.bel) (Int.tmod s.g 2) A5 c5 (blockU s) (block_byte s) (by rw [HBLL.out]; intro y hy; have := stable_R (l := blockU s) (by rw [HBLL.out]; exact HR5.out) y hy; rw [HBLL.out] at this; exact this) (by have := HFW.out; omega)
          rw [← HWW.out, HBLL.out] at hwr
          have HWR := Aside0.mk hwr
          clear hwr
          go_wp2_with fail
          refine HWR.out.mono ?_
          clear HWR
          rintro y w6 ⟨rfl, hp6, hf6⟩
          have HS6 := Aside0.mk (keep_super (HPD.out.below HWU5.out.bel) hf6 HWU5.out.sup)
          have HP6 := Aside0.mk hp6
          have HF6 := Aside0.mk (Disk.Fr.trans (.of_below HWU5.out.bel) hf6)
          clear hp6 hf6 HWU5 HR5
          go_wp2_with fail
          refine hKK.out _ _ HS6.out ?_
          clear hKK KK
          refine Go.Reg.lex_qp 1 _ _ _ _ _ (by rfl) ?_; simp only [List.take_succ_cons, List.take_zero, List.drop_succ_cons, List.drop_zero]; (repeat (go_big_quiet_step (rfl))); refine wpQuiet_nil ?_
          refine Go.Reg.lex_nil ?_
          go_wp2_with fail
          go_meet
          case rel => exact ⟨rfl, HP6, HF6⟩
        case rest =>
          obtain ⟨rfl, HP6, HF6⟩ := hcut
          obtain ⟨e, he⟩ : ∃ e, e = W.2 := ⟨_, rfl⟩
          have HRW := Aside0.mk (show R = if e ≠ 0 then W else (Disk.flushF W.1, Disk.flushR W.1) by rw [he]; exact HRV.out)
          have HEW := Aside0.mk he
          rw [← he]
          clear he HRV HWW HWU3 HR3
          by_cases he0 : e ≠ 0
          · have HRZ := Aside0.mk (show R = W by rw [HRW.out, if_pos he0])
            go_wp2_with fail
            go_ret
            exact ⟨by rw [HRZ.out, ← HEW.out]; rfl, by rw [HRZ.out]; exact HP6.out, HF6.out⟩
          · have he1 : e = 0 := Classical.byContradiction he0
            subst he1
            have HRZ := Aside0.mk (show R = (Disk.flushF W.1, Disk.flushR W.1) by rw [HRW.out, if_neg he0])
            clear he0 HRW HEW
            have hfl := Disk.flush_uni HP6.out HWF.out
            obtain ⟨q, hq⟩ : ∃ q, q = Disk.flushR W.1 := ⟨_, rfl⟩
            rw [← hq] at hfl HRZ
            have HFL := Aside0.mk hfl
            clear hfl hq
            go_wp2_with fail
            refine HFL.out.mono ?_
            clear HFL
            rintro y w7 ⟨rfl, hp7, hf7⟩
            have HP7 := Aside0.mk hp7
            have HF7 := Aside0.mk (HF6.out.trans hf7)
            clear hp7 hf7 HP6 HF6
            go_wp2_with fail
            go_ret
            exact ⟨by rw [HRZ.out]; rfl, by rw [HRZ.out]; exact HP7.out, HF7.out⟩
      · have hbb : (s.b != n) = true := by simpa using hbn
        have HRV := Aside0.mk (show R = (D, 1) by rw [HR.out]; unfold writeU; rw [if_neg (fun h => hbn (h.2.trans HNE.out.symm))])
        clear hbn HR
        go_wp2_with fail
        go_ret
        exact ⟨by rw [HRV.out]; rfl, by rw [HRV.out]; exact HPD.out.below HWU3.out.bel, .of_below HWU3.out.bel⟩
  · have HRV := Aside0.mk (show R = (D, 1) by rw [HR.out]; unfold writeU; rw [if_neg (fun h => hok h.1)])
    have HC := Aside0.mk (show P = (P.1, 1) from Prod.ext rfl (by rw [HP.out, put_code, if_neg hok]))
    rw [HC.out] at HPU
    clear hok HR
    go_enter Try.func15, Try.ntmps15
    go_wp2_with fail
    rw [← HW1.out]
    refine HPU.out.mono ?_
    clear HPU HW1
    rintro r w2 ⟨v2, rfl, hr2, b2⟩
    have HWU2 := Aside0.mk (HWU.out.step b2)
    clear hr2 b2 HWU
    go_wp2_with fail
    go_ret
    exact ⟨by rw [HRV.out]; rfl, by rw [HRV.out]; exact HPD.out.below HWU2.out.bel, .of_below HWU2.out.bel⟩
end Supr
end Go.Proofs.Ytopfjmeejpamjaa
end
section
namespace Go.Proofs.Ytopfjmeejpamjaa
set_option linter.unusedVariables false
set_option linter.unusedSimpArgs false
set_option linter.ambiguousOpen false
open Go.RowKit Go.Proofs.YtopfjmeejpamjaaW.PrintWords Go.Proofs.YtopfjmeejpamjaaW.PrintLast Go.Proofs.YtopfjmeejpamjaaW.PrintMore
namespace Supr
open Go.Num Go.Crc Go.Proofs.Ytopfjmeejpamjaa.Cell Go.Proofs.Ytopfjmeejpamjaa.Sect
theorem zeros_from (l : List Int) (hl : l.length ≤ 1000000) : ∀ (d i k : Nat), i + d = l.length → (∀ j (h : j < l.length), j < i → l[j] = 0) → PSuper.chantryref08_zeros.l0 (k + d + 1) l (i : Int) = some (zerosB l) := by
  intro d
  induction d with
  | zero =>
    intro i k hi hz
    rw [show k + 0 + 1 = k + 1 from rfl, PSuper.chantryref08_zeros.l0, if_neg (by omega)]
    have : zerosB l = true := by
      unfold zerosB
      rw [List.all_eq_true]
      intro y hy
      obtain ⟨j, hj, rfl⟩ := List.mem_iff_getElem.1 hy
      rw [hz j hj (by omega)]
      rfl
    rw [this]
  | succ d ih =>
    intro i k hi hz
    have hil : i < l.length := by omega
    rw [show k + (d + 1) + 1 = (k + d + 1) + 1 from by omega, PSuper.chantryref08_zeros.l0, if_pos (by omega), if_pos (by omega), rd_get i hil]
    by_cases h0 : l[i] = 0
    · rw [if_pos h0, show wrap64 ((i : Int) + 1) = ((i + 1 : Nat) : Int) by unfold wrap64; omega]
      exact ih (i + 1) k (by omega) (fun j hj hji => by
        rcases Nat.lt_succ_iff_lt_or_eq.1 hji with h | h
        · exact hz j hj h
        · subst h; exact h0)
    · rw [if_neg h0]
      have : zerosB l = false := by
        cases hz : zerosB l with
        | false => rfl
        | true =>
          unfold zerosB at hz
          rw [List.all_eq_true] at hz
          have := hz l[i] (List.getElem_mem _)
          exact absurd (by simpa using this) h0
      rw [this]
theorem zeros_any {w : World} (A : Option Addr) (c : Nat) (l : List Int) (hC : Kd.C (Kd.int .u8) w A l.length l) (hc : l.length ≤ c) (hl : l.length ≤ 1000000) :
    Calls Try.prog 59 #[.slice A l.length c] w fun e w' => e = .returned (.bool (zerosB l)) ∧ Below w.heap.size w w' :=
  (PSuper.chantryref08_zeros.calls (0 + l.length + 1) A c l _ w hC hc (zeros_from l hl l.length 0 0 (by omega) (fun j _ h => absurd h (by omega)))).mono (fun _ _ h => ⟨h.1, h.2.below⟩)
theorem RDx_other {w : World} {base sb xb : Nat} {D : Go.Disk.Dk} {vs vw : Value} (h : Disk.RDx w base sb xb D vs vw) {ub : Nat} {uc : Array Value} (hu : w.heap[ub]? = some (.cells uc 25 (0, 0))) (k : Nat) (v : Value) : Disk.RDx (w.setCell ⟨ub, k, none⟩ v) base sb xb D vs vw :=
  ⟨h.ok, h.xbase, by simpa [World.setCell] using h.slt, h.sown, h.wown, (Below.heap_setCell _ _ _ _ (tag_ne h.cells hu (by decide))).trans h.cells, Kd.R_set h.safe hu (by decide) k v, Kd.R_set h.waits hu (by decide) k v⟩
theorem RD_six {w : World} {base sb xb : Nat} {D : Go.Disk.Dk} (h : Disk.RD w base sb xb D) {ub : Nat} {a0 a1 a2 a3 a4 a5 : Value} (hu : w.heap[ub]? = some (.cells #[a0, a1, a2, a3, a4, a5] 25 (0, 0))) (v0 v1 v2 v3 v4 v5 : Value) : Disk.RD ((((((w.setCell ⟨ub, 0, none⟩ v0).setCell ⟨ub, 1, none⟩ v1).setCell ⟨ub, 2, none⟩ v2).setCell ⟨ub, 3, none⟩ v3).setCell ⟨ub, 4, none⟩ v4).setCell ⟨ub, 5, none⟩ v5) base sb xb D := by
  obtain ⟨vs, vw, h⟩ := h
  have h1 := blk_set hu 0 v0
  have h2 := blk_set h1 1 v1
  have h3 := blk_set h2 2 v2
  have h4 := blk_set h3 3 v3
  have h5 := blk_set h4 4 v4
  exact ⟨vs, vw, RDx_other (RDx_other (RDx_other (RDx_other (RDx_other (RDx_other h hu 0 v0) h1 1 v1) h2 2 v2) h3 3 v3) h4 4 v4) h5 5 v5⟩
theorem rd_tag {w : World} {base sb xb : Nat} {D : Go.Disk.Dk} (h : Disk.RD w base sb xb D) : ∃ cs, w.heap[xb]? = some (.cells cs 103 (0, 0)) := by
  obtain ⟨vs, vw, h⟩ := h
  exact ⟨_, h.cells⟩
theorem rd_safe {w : World} {base sb xb : Nat} {D : Go.Disk.Dk} (h : Disk.RD w base sb xb D) : ∃ A c, w.cell? ⟨xb, 0, none⟩ = some (.slice A D.safe.length c) := by
  obtain ⟨vs, vw, h⟩ := h
  obtain ⟨A, c, rfl⟩ := Kd.R_slice h.safe
  exact ⟨A, c, cell_blk h.cells⟩
theorem keep_superX {w w' : World} {base sb xb ub : Nat} {D : Go.Disk.Dk} {uc : Array Value} (h : Disk.RD w base sb xb D) (f : Disk.FX base xb w w') (hu : w.heap[ub]? = some (.cells uc 25 (0, 0))) : w'.heap[ub]? = some (.cells uc 25 (0, 0)) := by
  obtain ⟨_, h1⟩ := rd_tag h
  exact (f.block ub (blk_lt hu) (fun e => tag_ne hu h1 (by decide) e) (fun c t fz hc e => by
    rw [hu] at hc
    cases hc
    rcases e.2 with e | e <;> exact absurd e (by decide))).trans hu
structure RX (w0 w : World) (base sb xb bb : Nat) (D : Go.Disk.Dk) (best : SU) : Prop where
  fx : Disk.FX base xb w0 w
  zero : w.heap[w0.heap.size]? = some (.cells (sixU 0 0 0 0 0 0) 25 (0, 0))
  best : w.heap[bb]? = some (.cells (sixU best.g best.b best.l best.p best.q best.o) 25 (0, 0))
  rd : Disk.RD w base sb xb D
  far : w0.heap.size < bb
theorem RX.step {w0 w w' : World} {base sb xb bb : Nat} {D : Go.Disk.Dk} {best : SU} (h : RX w0 w base sb xb bb D best) (f : Below w.heap.size w w') : RX w0 w' base sb xb bb D best :=
  ⟨h.fx.trans (.of_below f), (f.block _ (blk_lt h.zero)).trans h.zero, (f.block _ (blk_lt h.best)).trans h.best, h.rd.below f, h.far⟩
theorem RX.read {w0 w w' : World} {base sb xb bb : Nat} {D D' : Go.Disk.Dk} {best : SU} (h : RX w0 w base sb xb bb D best) (f : Disk.FX base xb w w') (p : Disk.RD w' base sb xb D') : RX w0 w' base sb xb bb D' best :=
  ⟨h.fx.trans f, keep_superX h.rd f h.zero, keep_superX h.rd f h.best, p, h.far⟩
theorem RX.set {w0 w : World} {base sb xb bb : Nat} {D : Go.Disk.Dk} {best : SU} (h : RX w0 w base sb xb bb D best) (s : SU) : RX w0 ((((((w.setCell ⟨bb, 0, none⟩ (.int .i64 s.g)).setCell ⟨bb, 1, none⟩ (.int .i64 s.b)).setCell ⟨bb, 2, none⟩ (.int .i64 s.l)).setCell ⟨bb, 3, none⟩ (.int .i64 s.p)).setCell ⟨bb, 4, none⟩ (.int .i64 s.q)).setCell ⟨bb, 5, none⟩ (.int .i64 s.o)) base sb xb bb D s :=
  ⟨Fr_then h.fx (six_below (Below.refl _ w) (Nat.le_of_lt h.far) _ _ _ _ _ _), (six_but _ _ _ _ _ _ _ (Nat.ne_of_lt h.far)).trans h.zero, six_set h.best _ _ _ _ _ _, RD_six h.rd h.best _ _ _ _ _ _, h.far⟩
set_option maxHeartbeats 16000000 in
set_option maxRecDepth 100000 in
theorem xsread_any {w : World} {base sb xb : Nat} {D : Go.Disk.Dk} (h : Disk.RD w base sb xb D) (hfew : D.waits.length ≤ 1000000) :
    Calls Try.prog 24 #[.pointer (some ⟨xb, 0, none⟩)] w fun r w' => r = .returned (.tuple #[(readU D).1.v, .int .i64 (readU D).2]) ∧ Disk.RD w' base sb xb (readDk D) ∧ Disk.FX base xb w w' := by
  have HP := Aside0.mk h
  have HFW := Aside0.mk hfew
  have HOK := Aside0.mk h.ok
  obtain ⟨w1, hw1⟩ : ∃ w1, w1 = (w.alloc (.cells (sixU 0 0 0 0 0 0) 25)).alloc (.cells (sixU 0 0 0 0 0 0) 25) := ⟨_, rfl⟩
  have b1 : Below w.heap.size w w1 := by rw [hw1]; exact ((Below.refl _ _).alloc (Nat.le_refl _) _).alloc (by simp) _
  have HRU := Aside0.mk (show RX w w1 base sb xb (w.heap.size + 1) D zeroU from ⟨.of_below b1, by
    rw [hw1, Below.heap_alloc _ _ _ (by simp)]
    exact heap_alloc_new w _, by
    rw [hw1]
    have := heap_alloc_new (w.alloc (.cells (sixU 0 0 0 0 0 0) 25)) (.cells (sixU 0 0 0 0 0 0) 25)
    rw [World.size_alloc] at this
    exact this, h.below b1, by omega⟩)
  have HW1 := Aside0.mk hw1
  clear h hfew hw1 b1
  obtain ⟨rd0, hrd⟩ : ∃ z, z = Go.Disk.ready D 0 := ⟨_, rfl⟩
  by_cases hr0 : rd0 ≠ 0
  · have HV := Aside0.mk (show readU D = (zeroU, rd0) by unfold readU; rw [if_pos (by rw [← hrd]; exact hr0), hrd])
    have HD := Aside0.mk (show readDk D = D by unfold readDk; rw [if_pos (by rw [← hrd]; exact hr0)])
    have HR0 := Aside0.mk hrd
    clear hrd
    go_enter Try.func24, Try.ntmps24
    go_wp2_with fail
    rw [← HW1.out]
    go_loopg [6, 5] 2 (fun gk v6 v5 wr => gk = 2 ∧ v6 = .int .i64 0 ∧ v5 = .bool true ∧ wr = w1)
    case atStart => exact ⟨rfl, rfl, rfl, rfl⟩
    case round =>
      obtain ⟨rfl, rfl, rfl, rfl⟩ := hrel
      go_wp2_with fail
      have hrd := Disk.xread_no HRU.out.rd 0 (by rw [← HR0.out]; exact hr0)
      rw [← HR0.out] at hrd
      refine hrd.mono ?_
      clear hrd
      rintro r w2 ⟨rfl, hw2⟩
      obtain rfl : w2 = wr := hw2
      obtain ⟨⟨p0, p1, p2, p3, p4, p5⟩, q0, q1, q2, q3, q4, q5⟩ := cells6 HRU.out.zero
      obtain ⟨⟨e0, e1, e2, e3, e4, e5⟩, _⟩ := cells6 HRU.out.best
      go_wp2_with fail
      refine bodyPost_ret (results_ct rfl _ _ w.heap.size 25 (sixU 0 0 0 0 0 0) (0, 0) _ rfl (six_set HRU.out.zero _ _ _ _ _ _) Try.underlying25 rfl (by kernel_rfl)) rfl ?_
      exact ⟨by rw [HV.out]; rfl, by rw [HD.out]; exact RD_six HRU.out.rd HRU.out.zero _ _ _ _ _ _, Fr_then HRU.out.fx (six_below (Below.refl _ _) (Nat.le_refl _) _ _ _ _ _ _)⟩
  · have hr1 : rd0 = 0 := Classical.byContradiction hr0
    rw [hr1] at hrd
    have HR0 := Aside0.mk hrd
    have HV := Aside0.mk (show readU D = ((scanU D 2).2.1, if 0 < (scanU D 2).2.1.g then 0 else if (scanU D 2).2.2 then 6 else 13) by unfold readU; rw [if_neg (by rw [← hrd]; decide)])
    have HD := Aside0.mk (show readDk D = (scanU D 2).1 by unfold readDk; rw [if_neg (by rw [← hrd]; decide)])
    clear hrd hr1 hr0 rd0
    go_enter Try.func24, Try.ntmps24
    go_wp2_with fail
    rw [← HW1.out]
    obtain ⟨bb, hbb⟩ : ∃ bb, bb = w.heap.size + 1 := ⟨_, rfl⟩
    rw [← hbb] at HRU ⊢
    clear hbb HW1 HP
    go_loopg [6, 5] 2 (fun gk v6 v5 wr => ∃ (i : Nat) (bl : Bool) (best : SU) (E : Go.Disk.Dk), Aside0 (i + gk = 2) ∧ v6 = .int .i64 i ∧ v5 = .bool bl ∧ Aside0 (scanU D i = (E, best, bl)) ∧ Aside0 (RX w wr base sb xb bb E best))
    case atStart => exact ⟨0, true, zeroU, D, ⟨by omega⟩, rfl, rfl, ⟨rfl⟩, HRU⟩
    case round =>
      clear HRU
      obtain ⟨i, bl, best, E, HI, rfl, rfl, HS, HRU⟩ := hrel
      by_cases hi : i < 2
      · have hii : (i : Int) < 2 := by omega
        have HSM := Aside0.mk (scan_same D i)
        rw [HS.out] at HSM
        have HRI := Aside0.mk (show Go.Disk.ready E i = 0 by
          rw [ready_same HSM.out.1 HSM.out.2.1, ready_two D HOK.out i hi]
          exact HR0.out.symm)
        obtain ⟨V, hV⟩ : ∃ V, V = Disk.readV E i := ⟨_, rfl⟩
        have hvl := Disk.now_len HRU.out.rd.ok (i : Int) (by
          have := HRI.out
          unfold Go.Disk.ready at this
          have h16 := HRU.out.rd.ok.few
          omega)
        rw [show Disk.nowD E i = V by rw [hV]; unfold Disk.readV; rw [if_pos HRI.out]] at hvl
        have HVL := Aside0.mk hvl
        have HS1 := Aside0.mk (show scanU D (i + 1) = (Disk.readF E i, better D.safe.length best i (getU (V.take 64)), bl && zerosB V) by
          rw [hV]
          show (Disk.readF (scanU D i).1 i, better D.safe.length (scanU D i).2.1 i (getU ((Disk.readV (scanU D i).1 i).take 64)), (scanU D i).2.2 && zerosB (Disk.readV (scanU D i).1 i)) = _
          rw [HS.out])
        have hrd := Disk.xread_uni HRU.out.rd (i : Int) (by rw [HSM.out.2.2]; have := HFW.out; omega)
        rw [HRI.out, ← hV] at hrd
        have HRD := Aside0.mk hrd
        clear hvl hV hrd HS
        go_wp2_with fail
        refine HRD.out.mono ?_
        clear HRD
        rintro r w2 ⟨v2, rfl, hr2, hp2, hf2⟩
        have HRU2 := Aside0.mk (HRU.out.read hf2 hp2)
        obtain ⟨A2, c2, rfl⟩ := Kd.R_slice hr2
        have HC2 := Aside0.mk (Kd.R_reads' hr2)
        clear hr2 hp2 hf2 HRU
        rw [HVL.out.1] at HC2 ⊢
        go_upto_region 9 with (fail)
        obtain ⟨zb, hzb⟩ : ∃ z, z = zerosB V := ⟨_, rfl⟩
        have hct := zeros_any A2 c2 V (by have := HC2.out.2.2; rw [← HVL.out.1] at this; exact this) (by rw [HVL.out.1]; exact HC2.out.2.1) (by rw [HVL.out.1]; decide)
        rw [← hzb, HVL.out.1] at hct
        rw [← hzb] at HS1
        have HCT := Aside0.mk hct
        clear hct hzb
        go_cut [5] from 26 to 30 (fun v5 wc => v5 = .bool (bl && zb) ∧ Aside0 (Below w2.heap.size w2 wc))
        case first =>
          cases bl with
          | true =>
            go_wp2_with fail
            refine HCT.out.mono ?_
            rintro r w3 ⟨rfl, b3⟩
            have HB3 := Aside0.mk b3
            clear b3
            go_wp2_with fail
            go_meet
            case rel => exact ⟨by cases zb <;> rfl, HB3⟩
          | false =>
            go_wp2_with fail
            go_meet
            case rel => exact ⟨rfl, ⟨Below.refl _ _⟩⟩
        case rest =>
          obtain ⟨rfl, HBC⟩ := hcut
          replace HRU2 := Aside0.mk (HRU2.out.step HBC.out)
          replace HC2 := Aside0.mk (show True ∧ 256 ≤ c2 ∧ Kd.C (Kd.int .u8) wc A2 256 V from ⟨trivial, HC2.out.2.1, Kd.C_below HC2.out.2.2 HBC.out⟩)
          clear HCT HBC
          obtain ⟨a2, rfl⟩ : ∃ a, A2 = some a := by obtain ⟨a, ha, _⟩ := HC2.out.2.2.2.2 (by decide); exact ⟨a, ha⟩
          have hc64 : 64 ≤ c2 := by have := HC2.out.2.1; omega
          have hl64 : (V.take 64).length = 64 := by rw [List.length_take, HVL.out.1]; decide
          have hg := xsget_any (w := wc) (some a2) c2 (V.take 64) (by rw [hl64]; have := HC2.out.2.2; rw [← HVL.out.1] at this; exact head_C this 64 (by rw [HVL.out.1]; decide)) (fun y hy => HVL.out.2 y (List.mem_of_mem_take hy)) (by rw [hl64]; exact hc64) (by rw [hl64]; decide)
          rw [hl64] at hg
          obtain ⟨r, hr⟩ : ∃ r, r = getU (V.take 64) := ⟨_, rfl⟩
          rw [← hr] at hg HS1
          have HG := Aside0.mk hg
          clear hg hr hl64
          obtain ⟨s, hs⟩ : ∃ s, s = r.1 := ⟨_, rfl⟩
          obtain ⟨q, hq⟩ : ∃ q, q = r.2 := ⟨_, rfl⟩
          have HBT := Aside0.mk (show better D.safe.length best i r = if q = 0 ∧ s.b = D.safe.length ∧ Int.tmod s.g 2 = i ∧ best.g < s.g then s else best by rw [hs, hq]; rfl)
          rw [← hs, ← hq] at HG
          clear hs hq
          go_upto_region 10 with (fail)
          go_wp2_with fail
          refine HG.out.mono ?_
          clear HG
          rintro y w3 ⟨rfl, b3⟩
          have HRU3 := Aside0.mk (HRU2.out.step b3)
          clear HRU2 b3 hc64
          go_upto_region 11 with (fail)
          obtain ⟨w4, hw4⟩ : ∃ w4, w4 = w3.alloc (.cells (sixU s.g s.b s.l s.p s.q s.o) 25) := ⟨_, rfl⟩
          have b4 : Below w3.heap.size w3 w4 := by rw [hw4]; exact (Below.refl _ _).alloc (Nat.le_refl _) _
          have HS4 := Aside0.mk (show w4.heap[w3.heap.size]? = some (.cells (sixU s.g s.b s.l s.p s.q s.o) 25 (0, 0)) by rw [hw4]; exact heap_alloc_new w3 _)
          have HRU4 := Aside0.mk (HRU3.out.step b4)
          rw [← hw4]
          obtain ⟨sx, hsx⟩ : ∃ sx, sx = w3.heap.size := ⟨_, rfl⟩
          rw [← hsx] at HS4 ⊢
          clear hw4 b4 hsx HRU3
          have HDR := Aside0.mk (HRU4.out.step (below_drew1 (Below.refl w4.heap.size w4)))
          obtain ⟨AX, cX, hxc⟩ := rd_safe HRU4.out.rd
          rw [show (Disk.readF E i).safe.length = D.safe.length by rw [(readF_same E i).1, HSM.out.1]] at hxc
          obtain ⟨nn, hnn⟩ : ∃ nn : Nat, nn = D.safe.length := ⟨_, rfl⟩
          rw [← hnn] at hxc HBT HS1
          obtain ⟨_, htx⟩ := rd_tag HRU4.out.rd
          have m3 : ∀ m : Go.Reg.In (Below w4.heap.size w4), m.w.cell? ⟨xb, 0, none⟩ = some (.slice AX nn cX) := fun m => by
            rw [cell_blk ((m.h.block xb (blk_lt htx)).trans htx), ← cell_blk htx]
            exact hxc
          clear hxc hnn htx
          have m0 : ∀ m : Go.Reg.In (Below w4.heap.size w4), m.w.cell? ⟨sx, 0, none⟩ = some (.int .i64 s.g) := fun m => cell_blk ((m.h.block sx (blk_lt HS4.out)).trans HS4.out)
          have m1 : ∀ m : Go.Reg.In (Below w4.heap.size w4), m.w.cell? ⟨sx, 1, none⟩ = some (.int .i64 s.b) := fun m => cell_blk ((m.h.block sx (blk_lt HS4.out)).trans HS4.out)
          have m2 : ∀ m : Go.Reg.In (Below w4.heap.size w4), m.w.cell? ⟨bb, 0, none⟩ = some (.int .i64 best.g) := fun m => cell_blk ((m.h.block bb (blk_lt HRU4.out.best)).trans HRU4.out.best)
          by_cases c1 : q = 0
          · subst c1
            by_cases c2 : s.b = (nn : Int)
            · have c2b : (s.b == (nn : Int)) = true := by simpa using c2
              by_cases c3 : Int.tmod s.g 2 = i
              · have c3b : (Int.tmod s.g 2 == (i : Int)) = true := by simpa using c3
                by_cases c4 : best.g < s.g
                · have HNX := Aside0.mk (show better nn best i r = s by rw [HBT.out, if_pos ⟨rfl, c2, c3, c4⟩])
                  clear HBT c2 c3
                  refine Go.Reg.region (Below w4.heap.size w4) [.s, .s, .s, .s, .s, .s, .s, .s, .s, .s, .s, .s, .s, .s, .s, .s, .s, .s, .s, .s, .s, .s, .s, .s, .s, .s] (by kernel_rfl) (by kernel_rfl) (below_drew1 (Below.refl _ _)) (fun ne => ?_)
                  refine Go.Reg.lex_q 26 _ _ _ _ (by rfl) ?_; simp only [List.take_succ_cons, List.take_zero, List.drop_succ_cons, List.drop_zero]; (repeat (go_big_quiet_step (rfl))); refine wpQuiet_nil ?_
                  refine Go.Reg.lex_nil ?_
                  clear m0 m1 m2 m3
                  have HS5 := Aside0.mk (show w4.drew.heap[sx]? = some (.cells (sixU s.g s.b s.l s.p s.q s.o) 25 (0, 0)) from HS4.out)
                  obtain ⟨w5, hw5⟩ : ∃ w5, w5 = w4.drew := ⟨_, rfl⟩
                  rw [← hw5] at HDR HS5 ⊢
                  clear HS4 HRU4 hw5
                  obtain ⟨⟨k0, k1, k2, k3, k4, k5⟩, _⟩ := cells6 HS5.out
                  obtain ⟨⟨e0, e1, e2, e3, e4, e5⟩, q0, q1, q2, q3, q4, q5⟩ := cells6 HDR.out.best
                  go_wp2_with fail
                  go_roundg (2 - (i + 1))
                  case measure => have := HI.out; omega
                  case rel => exact ⟨i + 1, bl && zb, s, Disk.readF E i, ⟨by have := HI.out; omega⟩, by go_num, rfl, ⟨by rw [HS1.out, HNX.out]⟩, ⟨HDR.out.set s⟩⟩
                · have c4b : decide (best.g < s.g) = false := decide_eq_false c4
                  have HNX := Aside0.mk (show better nn best i r = best by rw [HBT.out, if_neg (fun h => c4 h.2.2.2)])
                  clear HBT
                  refine Go.Reg.region (Below w4.heap.size w4) [.s, .s, .s, .s, .s, .s, .s, .s, .s, .s, .s, .s, .s, .s, .s, .s, .s, .s, .s, .s, .s, .s, .s, .s, .s, .s] (by kernel_rfl) (by kernel_rfl) (below_drew1 (Below.refl _ _)) (fun ne => ?_)
                  refine Go.Reg.lex_q 26 _ _ _ _ (by rfl) ?_; simp only [List.take_succ_cons, List.take_zero, List.drop_succ_cons, List.drop_zero]; (repeat (go_big_quiet_step (rfl))); refine wpQuiet_nil ?_
                  refine Go.Reg.lex_nil ?_
                  clear m0 m1 m2 m3
                  go_wp2_with fail
                  go_roundg (2 - (i + 1))
                  case measure => have := HI.out; omega
                  case rel => exact ⟨i + 1, bl && zb, best, Disk.readF E i, ⟨by have := HI.out; omega⟩, by go_num, rfl, ⟨by rw [HS1.out, HNX.out]⟩, HDR⟩
              · have c3b : (Int.tmod s.g 2 == (i : Int)) = false := by simpa using c3
                have HNX := Aside0.mk (show better nn best i r = best by rw [HBT.out, if_neg (fun h => c3 h.2.2.1)])
                clear HBT
                refine Go.Reg.region (Below w4.heap.size w4) [.s, .s, .s, .s, .s, .s, .s, .s, .s, .s, .s, .s, .s, .s, .s, .s, .s, .s, .s, .s, .s, .s, .s, .s, .s, .s] (by kernel_rfl) (by kernel_rfl) (below_drew1 (Below.refl _ _)) (fun ne => ?_)
                refine Go.Reg.lex_q 26 _ _ _ _ (by rfl) ?_; simp only [List.take_succ_cons, List.take_zero, List.drop_succ_cons, List.drop_zero]; (repeat (go_big_quiet_step (rfl))); refine wpQuiet_nil ?_
                refine Go.Reg.lex_nil ?_
                clear m0 m1 m2 m3
                go_wp2_with fail
                go_roundg (2 - (i + 1))
                case measure => have := HI.out; omega
                case rel => exact ⟨i + 1, bl && zb, best, Disk.readF E i, ⟨by have := HI.out; omega⟩, by go_num, rfl, ⟨by rw [HS1.out, HNX.out]⟩, HDR⟩
            · have c2b : (s.b == (nn : Int)) = false := by simpa using c2
              have HNX := Aside0.mk (show better nn best i r = best by rw [HBT.out, if_neg (fun h => c2 h.2.1)])
              clear HBT
              refine Go.Reg.region (Below w4.heap.size w4) [.s, .s, .s, .s, .s, .s, .s, .s, .s, .s, .s, .s, .s, .s, .s, .s, .s, .s, .s, .s, .s, .s, .s, .s, .s, .s] (by kernel_rfl) (by kernel_rfl) (below_drew1 (Below.refl _ _)) (fun ne => ?_)
              refine Go.Reg.lex_q 26 _ _ _ _ (by rfl) ?_; simp only [List.take_succ_cons, List.take_zero, List.drop_succ_cons, List.drop_zero]; (repeat (go_big_quiet_step (rfl))); refine wpQuiet_nil ?_
              refine Go.Reg.lex_nil ?_
              clear m0 m1 m2 m3
              go_wp2_with fail
              go_roundg (2 - (i + 1))
              case measure => have := HI.out; omega
              case rel => exact ⟨i + 1, bl && zb, best, Disk.readF E i, ⟨by have := HI.out; omega⟩, by go_num, rfl, ⟨by rw [HS1.out, HNX.out]⟩, HDR⟩
          · have c1b : (q == 0) = false := by simpa using c1
            have HNX := Aside0.mk (show better nn best i r = best by rw [HBT.out, if_neg (fun h => c1 h.1)])
            clear HBT
            refine Go.Reg.region (Below w4.heap.size w4) [.s, .s, .s, .s, .s, .s, .s, .s, .s, .s, .s, .s, .s, .s, .s, .s, .s, .s, .s, .s, .s, .s, .s, .s, .s, .s] (by kernel_rfl) (by kernel_rfl) (below_drew1 (Below.refl _ _)) (fun ne => ?_)
            refine Go.Reg.lex_q 26 _ _ _ _ (by rfl) ?_; simp only [List.take_succ_cons, List.take_zero, List.drop_succ_cons, List.drop_zero]; (repeat (go_big_quiet_step (rfl))); refine wpQuiet_nil ?_
            refine Go.Reg.lex_nil ?_
            clear m0 m1 m2 m3
            go_wp2_with fail
            go_roundg (2 - (i + 1))
            case measure => have := HI.out; omega
            case rel => exact ⟨i + 1, bl && zb, best, Disk.readF E i, ⟨by have := HI.out; omega⟩, by go_num, rfl, ⟨by rw [HS1.out, HNX.out]⟩, HDR⟩
      · have hi2 : i = 2 := by have := HI.out; omega
        subst hi2
        have HV2 := Aside0.mk (show readU D = (best, if 0 < best.g then 0 else if bl = true then 6 else 13) by rw [HV.out, HS.out])
        have HD2 := Aside0.mk (show readDk D = E by rw [HD.out, HS.out])
        obtain ⟨⟨p0, p1, p2, p3, p4, p5⟩, q0, q1, q2, q3, q4, q5⟩ := cells6 HRU.out.zero
        obtain ⟨⟨e0, e1, e2, e3, e4, e5⟩, _⟩ := cells6 HRU.out.best
        clear HV HD HS hi
        have HFIN := Aside0.mk (show ∀ C : Int, (C = if 0 < best.g then 0 else if bl = true then 6 else 13) → Ending.returned (.tuple #[best.v, .int .i64 C]) = Ending.returned (.tuple #[(readU D).1.v, .int .i64 (readU D).2]) from fun C hC => by rw [HV2.out, hC])
        by_cases hg : 0 < best.g
        · have HFX := Aside0.mk (HFIN.out 0 (by rw [if_pos hg]))
          clear HFIN HV2
          go_wp2_with fail
          refine bodyPost_ret (results_ct rfl _ _ w.heap.size 25 (sixU best.g best.b best.l best.p best.q best.o) (0, 0) _ rfl (six_set HRU.out.zero _ _ _ _ _ _) Try.underlying25 rfl (by kernel_rfl)) rfl ?_
          exact ⟨HFX.out, by rw [HD2.out]; exact RD_six HRU.out.rd HRU.out.zero _ _ _ _ _ _, Fr_then HRU.out.fx (six_below (Below.refl _ _) (Nat.le_refl _) _ _ _ _ _ _)⟩
        · cases bl with
          | true =>
            have HFX := Aside0.mk (HFIN.out 6 (by rw [if_neg hg]; rfl))
            clear HFIN HV2
            go_wp2_with fail
            refine bodyPost_ret (results_ct rfl _ _ w.heap.size 25 (sixU best.g best.b best.l best.p best.q best.o) (0, 0) _ rfl (six_set HRU.out.zero _ _ _ _ _ _) Try.underlying25 rfl (by kernel_rfl)) rfl ?_
            exact ⟨HFX.out, by rw [HD2.out]; exact RD_six HRU.out.rd HRU.out.zero _ _ _ _ _ _, Fr_then HRU.out.fx (six_below (Below.refl _ _) (Nat.le_refl _) _ _ _ _ _ _)⟩
          | false =>
            have HFX := Aside0.mk (HFIN.out 13 (by rw [if_neg hg]; rfl))
            clear HFIN HV2
            go_wp2_with fail
            refine bodyPost_ret (results_ct rfl _ _ w.heap.size 25 (sixU best.g best.b best.l best.p best.q best.o) (0, 0) _ rfl (six_set HRU.out.zero _ _ _ _ _ _) Try.underlying25 rfl (by kernel_rfl)) rfl ?_
            exact ⟨HFX.out, by rw [HD2.out]; exact RD_six HRU.out.rd HRU.out.zero _ _ _ _ _ _, Fr_then HRU.out.fx (six_below (Below.refl _ _) (Nat.le_refl _) _ _ _ _ _ _)⟩
end Supr
end Go.Proofs.Ytopfjmeejpamjaa
end
section
namespace Go.Proofs.Ytopfjmeejpamjaa
set_option linter.unusedVariables false
set_option linter.unusedSimpArgs false
set_option linter.ambiguousOpen false
open Go.RowKit Go.Proofs.YtopfjmeejpamjaaW.PrintWords Go.Proofs.YtopfjmeejpamjaaW.PrintLast Go.Proofs.YtopfjmeejpamjaaW.PrintMore
namespace Supr
open Go.Num Go.Crc Go.Proofs.Ytopfjmeejpamjaa.Cell Go.Proofs.Ytopfjmeejpamjaa.Sect
set_option maxHeartbeats 16000000 in
set_option maxRecDepth 100000 in
theorem xswrite_any {w : World} {base sb xb : Nat} {D : Go.Disk.Dk} (h : Disk.RD w base sb xb D) (s : SU) (hfew : D.waits.length ≤ 900000) :
    Calls Try.prog 25 #[.pointer (some ⟨xb, 0, none⟩), s.v] w fun r w' => r = .returned (.int .i64 (writeU D s).2) ∧ Disk.RD w' base sb xb (writeU D s).1 ∧ Disk.FX base xb w w' := by
  have HFW := Aside0.mk hfew
  obtain ⟨w1, hw1⟩ : ∃ w1, w1 = w.alloc (.cells (sixU s.g s.b s.l s.p s.q s.o) 25) := ⟨_, rfl⟩
  have b1 : Below w.heap.size w w1 := by rw [hw1]; exact (Below.refl _ _).alloc (Nat.le_refl _) _
  have HWU := Aside0.mk (show WU w w1 s from ⟨b1, by rw [hw1]; exact heap_alloc_new w _⟩)
  have HW1 := Aside0.mk hw1
  have HPD := Aside0.mk h
  clear h hfew hw1 b1
  obtain ⟨R, hR⟩ : ∃ R, R = writeU D s := ⟨_, rfl⟩
  rw [← hR]
  have HR := Aside0.mk hR
  have hput := xsput_R (w := w1) s.g s.b s.l s.p s.q s.o
  obtain ⟨P, hP⟩ : ∃ P, P = putU s.g s.b s.l s.p s.q s.o := ⟨_, rfl⟩
  rw [← hP] at hput
  have HPU := Aside0.mk hput
  have HP := Aside0.mk hP
  clear hR hput hP
  by_cases hok : s.ok = true
  · have HOK := Aside0.mk hok
    have HC := Aside0.mk (show P = (P.1, 0) from Prod.ext rfl (by rw [HP.out, put_code, if_pos hok]))
    rw [HC.out] at HPU
    have HPL := Aside0.mk (show P.1.length = 64 by rw [HP.out]; exact put_yes_len hok)
    clear hok
    go_enter Try.func25, Try.ntmps25
    go_wp2_with fail
    rw [← HW1.out]
    refine HPU.out.mono ?_
    clear HPU HW1
    rintro r w2 ⟨v2, rfl, hr2, b2⟩
    have HWU2 := Aside0.mk (HWU.out.step b2)
    have HR2 := Aside0.mk (Kd.R_lower (base' := w.heap.size) hr2 HWU.out.bel.size)
    obtain ⟨A2, c2, rfl⟩ := Kd.R_slice hr2
    rw [HPL.out] at HR2 ⊢
    clear hr2 b2 HWU
    go_upto_region 4 with (fail)
    obtain ⟨nn, hnn⟩ : ∃ nn : Nat, nn = D.safe.length := ⟨_, rfl⟩
    have HNE := Aside0.mk hnn
    clear hnn
    go_cut [22] from 15 to 22 (fun v22 wc => v22 = .bool (s.b != (nn : Int)) ∧ wc = w2.drew)
    case first =>
      refine Go.Reg.region (Below w2.heap.size w2) [.s, .s, .s, .s, .s, .s, .s, .s] (by kernel_rfl) (by kernel_rfl) (below_drew1 (Below.refl _ _)) (fun ne => ?_)
      have m1 : ∀ m : Go.Reg.In (Below w2.heap.size w2), m.w.cell? ⟨w.heap.size, 1, none⟩ = some (.int .i64 s.b) := fun m => cell_blk ((m.h.block _ (blk_lt HWU2.out.sup)).trans HWU2.out.sup)
      obtain ⟨AX, cX, hxc⟩ := rd_safe (HPD.out.below HWU2.out.bel)
      rw [← HNE.out] at hxc
      obtain ⟨_, htx⟩ := rd_tag (HPD.out.below HWU2.out.bel)
      have m3 : ∀ m : Go.Reg.In (Below w2.heap.size w2), m.w.cell? ⟨xb, 0, none⟩ = some (.slice AX nn cX) := fun m => by
        rw [cell_blk ((m.h.block xb (blk_lt htx)).trans htx), ← cell_blk htx]
        exact hxc
      clear hxc htx
      refine Go.Reg.lex_q 8 _ _ _ _ (by rfl) ?_; simp only [List.take_succ_cons, List.take_zero, List.drop_succ_cons, List.drop_zero]; (repeat (go_big_quiet_step (rfl))); refine wpQuiet_nil ?_
      refine Go.Reg.lex_nil ?_
      clear m1 m3
      go_wp2_with fail
      go_meet
      case rel => exact ⟨rfl, rfl⟩
    case rest =>
      obtain ⟨rfl, rfl⟩ := hcut
      obtain ⟨w3, hw3⟩ : ∃ w3, w3 = w2.drew := ⟨_, rfl⟩
      have HWU3 := Aside0.mk (show WU w w3 s by rw [hw3]; exact HWU2.out.step (below_drew1 (Below.refl w2.heap.size w2)))
      have HR3 := Aside0.mk (show Kd.R (Kd.int .u8) 5 w3 w.heap.size (fun _ => True) (.slice A2 64 c2) P.1 by rw [hw3]; exact Kd.R_below HR2.out (below_drew1 (Below.refl w2.heap.size w2)))
      rw [← hw3]
      clear hw3 HWU2 HR2
      by_cases hbn : s.b = (nn : Int)
      · have hbb : (s.b != (nn : Int)) = false := by simp [hbn]
        rw [hbb]
        clear hbb
        have HRV := Aside0.mk (show R = if (Disk.writeD D (Int.tmod s.g 2) (blockU s)).2 ≠ 0 then Disk.writeD D (Int.tmod s.g 2) (blockU s) else (Disk.flushF (Disk.writeD D (Int.tmod s.g 2) (blockU s)).1, Disk.flushR (Disk.writeD D (Int.tmod s.g 2) (blockU s)).1) by rw [HR.out]; unfold writeU; rw [if_pos ⟨HOK.out, by rw [hbn, HNE.out]⟩])
        have HBL := Aside0.mk (show P.1 ++ List.replicate 192 0 = blockU s by rw [HP.out]; rfl)
        have HBLL := Aside0.mk (block_len HOK.out)
        clear hbn HR HNE HOK HP HC
        go_upto_region 6 with (fail)
        obtain ⟨W, hW⟩ : ∃ W, W = Disk.writeD D (Int.tmod s.g 2) (blockU s) := ⟨_, rfl⟩
        have HWF := Aside0.mk (show W.1.waits.length ≤ 1000000 by rw [hW]; have := write_waits D (Int.tmod s.g 2) (blockU s); have := HFW.out; omega)
        rw [← hW] at HRV
        have HWW := Aside0.mk hW
        clear hW
        go_cut [6] from 23 to 29 (fun v6 wc => v6 = .int .i64 W.2 ∧ Aside0 (Disk.RD wc base sb xb W.1) ∧ Aside0 (Disk.FX base xb w wc))
        case first =>
          refine Go.Reg.region (fun y => y.heap[w.heap.size]? = some (.cells (sixU s.g s.b s.l s.p s.q s.o) 25 (0, 0))) [.s, .s, .s, .s, .s, .w, .w, .p] (by kernel_rfl) (by kernel_rfl) (show w3.drew.heap[w.heap.size]? = _ from HWU3.out.sup) (fun ne => ?_)
          have m0 : ∀ m : Go.Reg.In (fun y => y.heap[w.heap.size]? = some (.cells (sixU s.g s.b s.l s.p s.q s.o) 25 (0, 0))), m.w.cell? ⟨w.heap.size, 0, none⟩ = some (.int .i64 s.g) := fun m => cell_blk m.h
          refine Go.Reg.lex_q 5 _ _ _ _ (by rfl) ?_; simp only [List.take_succ_cons, List.take_zero, List.drop_succ_cons, List.drop_zero]; (repeat (go_big_quiet_step (rfl))); refine wpQuiet_nil ?_
          clear m0
          obtain ⟨w4, hw4⟩ : ∃ w4, w4 = w3.drew := ⟨_, rfl⟩
          have HWU4 := Aside0.mk (show WU w w4 s by rw [hw4]; exact HWU3.out.step (below_drew1 (Below.refl w3.heap.size w3)))
          have HR4 := Aside0.mk (show Kd.R (Kd.int .u8) 5 w4 w.heap.size (fun _ => True) (.slice A2 64 c2) P.1 by rw [hw4]; exact Kd.R_below HR3.out (below_drew1 (Below.refl w3.heap.size w3)))
          rw [← hw4]
          clear hw4 HWU3 HR3
          refine Go.Reg.step_w (fun KK hKK => ?_)
          go_wp2_with ((with_reducible refine gate_builtin (b := .append) (xs := #[.tmp 27, .const (.int .i64 192)]) rfl ?_); at_builtin; refine Hid.out ?_)
          refine Lib.hid ?_
          refine Kd.R_append_zeros (Kd.int .u8) (w0 := w) w.heap.size rfl (.tmp 27) (.const (.int .i64 192)) 26 3 5 (.int .u8 0) 1 rfl Try.underlying26 Try.underlying3 infoU8 rfl (by decide) (by omega) (.slice A2 64 c2) P.1 0 (kx := .i64) 192 (fun _ => True) rfl rfl rfl (fun _ _ => trivial) HR4.out (by omega) HWU4.out.bel HWU4.out.bel.size (by rw [HPL.out]; decide) ?_
          intro v5 w5 ho hb hg _
          rw [show (192 : Int).toNat = 192 from rfl, HBL.out] at ho
          have HWU5 := Aside0.mk (show WU w w5 s from ⟨hb, (hg.block _ (blk_lt HWU4.out.sup) (Kd.R_ne HR4.out HWU4.out.sup (by decide))).trans HWU4.out.sup⟩)
          obtain ⟨A5, c5, rfl⟩ := Kd.R_slice ho
          rw [HBLL.out] at ho ⊢
          have HR5 := Aside0.mk ho
          clear ho hb hg HWU4 HR4
          go_wp2_with fail
          refine hKK.out _ _ HWU5.out.sup ?_
          clear hKK KK
          refine Go.Reg.step_w (fun KK hKK => ?_)
          have hwr := Disk.xwrite_uni (HPD.out.below HWU5.out.bel) (Int.tmod s.g 2) A5 c5 (blockU s) (block_byte s) (by rw [HBLL.out]; intro y hy; have := stable_R (l := blockU s) (by rw [HBLL.out]; exact HR5.out) y hy; rw [HBLL.out] at this; exact this) (by have := HFW.out; omega)
          rw [← HWW.out, HBLL.out] at hwr
          have HWR := Aside0.mk hwr
          clear hwr
          go_wp2_with fail
          refine HWR.out.mono ?_
          clear HWR
          rintro y w6 ⟨rfl, hp6, hf6⟩
          have HS6 := Aside0.mk (keep_superX (HPD.out.below HWU5.out.bel) hf6 HWU5.out.sup)
          have HP6 := Aside0.mk hp6
          have HF6 := Aside0.mk (Disk.Fr.trans (.of_below HWU5.out.bel) hf6)
          clear hp6 hf6 HWU5 HR5
          go_wp2_with fail
          refine hKK.out _ _ HS6.out ?_
          clear hKK KK
          refine Go.Reg.lex_qp 1 _ _ _ _ _ (by rfl) ?_; simp only [List.take_succ_cons, List.take_zero, List.drop_succ_cons, List.drop_zero]; (repeat (go_big_quiet_step (rfl))); refine wpQuiet_nil ?_
          refine Go.Reg.lex_nil ?_
          go_wp2_with fail
          go_meet
          case rel => exact ⟨rfl, HP6, HF6⟩
        case rest =>
          obtain ⟨rfl, HP6, HF6⟩ := hcut
          obtain ⟨e, he⟩ : ∃ e, e = W.2 := ⟨_, rfl⟩
          have HRW := Aside0.mk (show R = if e ≠ 0 then W else (Disk.flushF W.1, Disk.flushR W.1) by rw [he]; exact HRV.out)
          have HEW := Aside0.mk he
          rw [← he]
          clear he HRV HWW HWU3 HR3
          by_cases he0 : e ≠ 0
          · have HRZ := Aside0.mk (show R = W by rw [HRW.out, if_pos he0])
            have heb : (e == 0) = false := by simpa using he0
            go_wp2_with fail
            go_ret
            exact ⟨by rw [HRZ.out, ← HEW.out]; rfl, by rw [HRZ.out]; exact HP6.out, HF6.out⟩
          · have he1 : e = 0 := Classical.byContradiction he0
            subst he1
            have HRZ := Aside0.mk (show R = (Disk.flushF W.1, Disk.flushR W.1) by rw [HRW.out, if_neg he0])
            clear he0 HRW HEW
            have hfl := Disk.xflush_uni HP6.out HWF.out
            obtain ⟨q, hq⟩ : ∃ q, q = Disk.flushR W.1 := ⟨_, rfl⟩
            rw [← hq] at hfl HRZ
            have HFL := Aside0.mk hfl
            clear hfl hq
            go_wp2_with fail
            refine HFL.out.mono ?_
            clear HFL
            rintro y w7 ⟨rfl, hp7, hf7⟩
            have HP7 := Aside0.mk hp7
            have HF7 := Aside0.mk (HF6.out.trans hf7)
            clear hp7 hf7 HP6 HF6
            go_wp2_with fail
            go_ret
            exact ⟨by rw [HRZ.out]; rfl, by rw [HRZ.out]; exact HP7.out, HF7.out⟩
      · have hbb : (s.b != (nn : Int)) = true := by simpa using hbn
        have HRV := Aside0.mk (show R = (D, 1) by rw [HR.out]; unfold writeU; rw [if_neg (fun h => hbn (h.2.trans (by rw [HNE.out])))])
        clear hbn HR
        go_wp2_with fail
        go_ret
        exact ⟨by rw [HRV.out]; rfl, by rw [HRV.out]; exact HPD.out.below HWU3.out.bel, .of_below HWU3.out.bel⟩
  · have HRV := Aside0.mk (show R = (D, 1) by rw [HR.out]; unfold writeU; rw [if_neg (fun h => hok h.1)])
    have HC := Aside0.mk (show P = (P.1, 1) from Prod.ext rfl (by rw [HP.out, put_code, if_neg hok]))
    rw [HC.out] at HPU
    clear hok HR
    go_enter Try.func25, Try.ntmps25
    go_wp2_with fail
    rw [← HW1.out]
    refine HPU.out.mono ?_
    clear HPU HW1
    rintro r w2 ⟨v2, rfl, hr2, b2⟩
    have HWU2 := Aside0.mk (HWU.out.step b2)
    clear hr2 b2 HWU
    go_wp2_with fail
    go_ret
    exact ⟨by rw [HRV.out]; rfl, by rw [HRV.out]; exact HPD.out.below HWU2.out.bel, .of_below HWU2.out.bel⟩
end Supr
end Go.Proofs.Ytopfjmeejpamjaa
end
section
namespace Go.Proofs.Ytopfjmeejpamjaa
set_option linter.unusedVariables false
set_option linter.unusedSimpArgs false
set_option linter.ambiguousOpen false
open Go.RowKit Go.Proofs.YtopfjmeejpamjaaW.PrintWords Go.Proofs.YtopfjmeejpamjaaW.PrintLast Go.Proofs.YtopfjmeejpamjaaW.PrintMore
namespace Supr
open Go.Num Go.Crc Go.Proofs.Ytopfjmeejpamjaa.Cell Go.Proofs.Ytopfjmeejpamjaa.Sect
def s7 : SU := ⟨7, 16, 3, 9, 40, 7⟩
def s17 : SU := ⟨8, 17, 8, 0, 0, 0⟩
def s9 : SU := ⟨8, 16, 9, 0, 0, 0⟩
abbrev D0 : Go.Disk.Dk := Go.Disk.blankD 16
def D1 : Go.Disk.Dk := readDk D0
def D2 : Go.Disk.Dk := (writeU D1 s7).1
def D3 : Go.Disk.Dk := readDk D2
def D4 : Go.Disk.Dk := Disk.readF D3 1
def one256 : List Int := Disk.blockOf [1]
def D5 : Go.Disk.Dk := (Disk.writeD D4 1 one256).1
theorem ex0 : readU D0 = (zeroU, 6) := by kernel_rfl
theorem ex1 : (writeU D1 s7).2 = 0 := by kernel_rfl
theorem ex2 : readU D2 = (s7, 0) := by kernel_rfl
theorem ex3 : Go.Disk.ready D3 1 = 0 := by kernel_rfl
theorem ex4 : getU ((Disk.readV D3 1).take 64) = (s7, 0) := by kernel_rfl
theorem ex5 : writeU D4 s17 = (D4, 1) := by kernel_rfl
theorem ex6 : writeU D4 s9 = (D4, 1) := by kernel_rfl
theorem ex7 : readU D5 = (zeroU, 13) := by kernel_rfl
theorem ex8 : s7.ok = true := by kernel_rfl
theorem ex9 : (⟨0, 0, 0, 0, 0, 0⟩ : SU).ok = false := by kernel_rfl
theorem ex10 : D0.waits.length = 0 ∧ D1.waits.length = 0 ∧ D2.waits.length = 0 ∧ D3.waits.length = 0 ∧ D4.waits.length = 0 ∧ D5.waits.length = 1 ∧ (Disk.readV D3 1).length = 256 := by refine ⟨?_, ?_, ?_, ?_, ?_, ?_, ?_⟩ <;> kernel_rfl
theorem exB : ∀ y ∈ Disk.readV D3 1, 0 ≤ y ∧ y ≤ 255 := by
  have : (Disk.readV D3 1).all (fun y => decide (0 ≤ y ∧ y ≤ 255)) = true := by kernel_rfl
  rw [List.all_eq_true] at this
  exact fun y hy => of_decide_eq_true (this y hy)
theorem exC : ∀ y ∈ one256, 0 ≤ y ∧ y ≤ 255 := by
  have : one256.all (fun y => decide (0 ≤ y ∧ y ≤ 255)) = true := by kernel_rfl
  rw [List.all_eq_true] at this
  exact fun y hy => of_decide_eq_true (this y hy)
theorem exL : one256.length = 256 := by kernel_rfl
end Supr
end Go.Proofs.Ytopfjmeejpamjaa
end
section
namespace Go.Proofs.Ytopfjmeejpamjaa
set_option linter.unusedVariables false
set_option linter.unusedSimpArgs false
set_option linter.ambiguousOpen false
open Go.RowKit Go.Proofs.YtopfjmeejpamjaaW.PrintWords Go.Proofs.YtopfjmeejpamjaaW.PrintLast Go.Proofs.YtopfjmeejpamjaaW.PrintMore
namespace Supr
open Go.Num Go.Crc Go.Proofs.Ytopfjmeejpamjaa.Cell Go.Proofs.Ytopfjmeejpamjaa.Sect
def eqU (s t : SU) : Bool := s.g == t.g && (s.b == t.b && (s.l == t.l && (s.p == t.p && (s.q == t.q && s.o == t.o))))
theorem eqU_iff (s t : SU) : eqU s t = true ↔ s = t := by
  obtain ⟨a, b, c, d, e, f⟩ := s
  obtain ⟨a', b', c', d', e', f'⟩ := t
  unfold eqU
  simp
theorem eq_super (s t : SU) (w : World) : (Op.equalIn 10000 25 s.v t.v).run Try.prog w = .ok (eqU s t) w := by
  have u3 := Try.underlying3
  have a3 := Try.isAgg3
  have z3 := Try.sizeOf3
  have u4 := Try.underlying23
  have a4 := Try.isAgg23
  have z4 := Try.sizeOf23
  rw [show (10000 : Nat) = 9999 + 1 from rfl, Op.equalIn]
  simp only [Sem.run_bind, run_underlying Try.underlying25, Result.andThen_ok]
  go_simp
  unfold eqU
  by_cases h1 : s.g = t.g <;> by_cases h2 : s.b = t.b <;> by_cases h3 : s.l = t.l <;> by_cases h4 : s.p = t.p <;> by_cases h5 : s.q = t.q <;> by_cases h6 : s.o = t.o <;> simp [h1, h2, h3, h4, h5, h6]
theorem eq_self (s : SU) (w : World) : (Op.equalIn 10000 25 s.v s.v).run Try.prog w = .ok true w := by
  rw [eq_super, (eqU_iff s s).2 rfl]
set_option maxHeartbeats 16000000 in
set_option maxRecDepth 100000 in
theorem sread_nil {w : World} : Calls Try.prog 18 #[.pointer none] w fun r w' => r = .returned (.tuple #[zeroU.v, .int .i64 8]) ∧ Below w.heap.size w w' := by
  obtain ⟨w1, hw1⟩ : ∃ w1, w1 = (w.alloc (.cells (sixU 0 0 0 0 0 0) 25)).alloc (.cells (sixU 0 0 0 0 0 0) 25) := ⟨_, rfl⟩
  have HB1 := Aside0.mk (show Below w.heap.size w w1 by rw [hw1]; exact ((Below.refl _ _).alloc (Nat.le_refl _) _).alloc (by simp) _)
  have HZ := Aside0.mk (show w1.heap[w.heap.size]? = some (.cells (sixU 0 0 0 0 0 0) 25 (0, 0)) by
    rw [hw1, Below.heap_alloc _ _ _ (by simp)]
    exact heap_alloc_new w _)
  have HW1 := Aside0.mk hw1
  clear hw1
  go_enter Try.func18, Try.ntmps18
  go_wp2_with fail
  rw [← HW1.out]
  go_loopg [10, 5] 2 (fun gk v10 v5 wr => gk = 2 ∧ v10 = .int .i64 0 ∧ v5 = .bool true ∧ wr = w1)
  case atStart => exact ⟨rfl, rfl, rfl, rfl⟩
  case round =>
    obtain ⟨rfl, rfl, rfl, rfl⟩ := hrel
    go_wp2_with fail
    refine (Disk.read_nil _).mono ?_
    rintro r w2 ⟨rfl, hw2⟩
    obtain rfl : w2 = wr := hw2
    obtain ⟨⟨p0, p1, p2, p3, p4, p5⟩, q0, q1, q2, q3, q4, q5⟩ := cells6 HZ.out
    go_wp2_with fail
    refine bodyPost_ret (results_ct rfl _ _ w.heap.size 25 (sixU 0 0 0 0 0 0) (0, 0) _ rfl (six_set HZ.out _ _ _ _ _ _) Try.underlying25 rfl (by kernel_rfl)) rfl ?_
    exact ⟨rfl, six_below HB1.out (Nat.le_refl _) _ _ _ _ _ _⟩
structure AW (w0 w : World) (db sb : Nat) (D : Go.Disk.Dk) : Prop where
  bel : Below w0.heap.size w0 w
  pd : Disk.PD w w0.heap.size db sb D
  ldb : w0.heap.size ≤ db
  lsb : w0.heap.size ≤ sb
theorem AW.step {w0 w w' : World} {db sb : Nat} {D : Go.Disk.Dk} (h : AW w0 w db sb D) (b : Below w.heap.size w w') : AW w0 w' db sb D :=
  ⟨h.bel.trans (b.mono h.bel.size), h.pd.below b, h.ldb, h.lsb⟩
theorem AW.disk {w0 w w' : World} {db sb : Nat} {D D' : Go.Disk.Dk} (h : AW w0 w db sb D) (f : Disk.FP w0.heap.size db sb w w') (p : Disk.PD w' w0.heap.size db sb D') : AW w0 w' db sb D' :=
  ⟨h.bel.trans (Disk.FP.below f h.ldb h.lsb h.bel.size), p, h.ldb, h.lsb⟩
abbrev Sup (w : World) (b : Nat) (s : SU) : Prop := w.heap[b]? = some (.cells (sixU s.g s.b s.l s.p s.q s.o) 25 (0, 0))
theorem Sup.step {w w' : World} {b : Nat} {s : SU} (h : Sup w b s) (f : Below w.heap.size w w') : Sup w' b s := (f.block _ (blk_lt h)).trans h
theorem one_row {w : World} {b : Nat} {x : Int} (h : w.heap[b]? = some (.cells #[.int .u8 x] 5 (0, 0))) : Kd.C (Kd.int .u8) w (some ⟨b, 0, none⟩) [x].length [x] := by
  have hb : w.heap[b]? = some (.cells (([x] : List Int).map (Value.int .u8) ++ []).toArray 5 (0, 0)) := h
  exact row_at (row_of (base := 0) (ok := fun _ => True) hb (Nat.zero_le _) trivial rfl (by simp))
set_option maxHeartbeats 32000000 in
set_option maxRecDepth 100000 in
theorem awake_any (w : World) : Calls Try.prog 11 #[] w fun e w' => e = .returned (.bool true) ∧ Below w.heap.size w w' := by
  go_enter Try.func11, Try.ntmps11
  go_wp2_with fail
  refine (Disk.blank_yes 16 w (by omega)).mono ?_
  rintro e w1 ⟨db, sb, rfl, p1, b1⟩
  have HA := Aside0.mk (show AW w w1 db sb D0 from ⟨b1, p1, by obtain ⟨_, _, _, h⟩ := p1; exact h.dbase, by obtain ⟨_, _, _, h⟩ := p1; exact h.sbase⟩)
  clear p1 b1
  go_wp2_with fail
  have hr := sread_any HA.out.pd (by rw [ex10.1]; decide)
  rw [ex0] at hr
  refine hr.mono ?_
  clear hr
  rintro e w2 ⟨rfl, p2, f2⟩
  replace HA := Aside0.mk (show AW w w2 db sb D1 from HA.out.disk f2 p2)
  clear p2 f2
  go_wp2_with fail
  obtain ⟨w4, hw4⟩ : ∃ z, z = (w2.alloc (.cells #[.int .i64 zeroU.g, .int .i64 zeroU.b, .int .i64 zeroU.l, .int .i64 zeroU.p, .int .i64 zeroU.q, .int .i64 zeroU.o] 25)).alloc (.cells (sixU 7 16 3 9 40 7) 25) := ⟨_, rfl⟩
  have b4 : Below w2.heap.size w2 w4 := by rw [hw4]; exact ((Below.refl _ _).alloc (Nat.le_refl _) _).alloc (by simp) _
  have HS := Aside0.mk (show Sup w4 (w2.heap.size + 1) s7 by
    rw [hw4]
    have := heap_alloc_new (w2.alloc (.cells #[.int .i64 zeroU.g, .int .i64 zeroU.b, .int .i64 zeroU.l, .int .i64 zeroU.p, .int .i64 zeroU.q, .int .i64 zeroU.o] 25)) (.cells (sixU 7 16 3 9 40 7) 25)
    rw [World.size_alloc] at this
    exact this)
  replace HA := Aside0.mk (HA.out.step b4)
  rw [← hw4]
  obtain ⟨us, hus⟩ : ∃ us, us = w2.heap.size + 1 := ⟨_, rfl⟩
  rw [← hus] at HS ⊢
  clear hw4 b4 hus
  have hr := swrite_any HA.out.pd s7 (by rw [ex10.2.1]; decide)
  rw [ex1] at hr
  refine hr.mono ?_
  clear hr
  rintro e w5 ⟨rfl, p5, f5⟩
  replace HS := Aside0.mk (show Sup w5 us s7 from keep_super HA.out.pd f5 HS.out)
  replace HA := Aside0.mk (show AW w w5 db sb D2 from HA.out.disk f5 p5)
  clear p5 f5
  go_wp2_with fail
  have hr := sread_any HA.out.pd (by rw [ex10.2.2.1]; decide)
  rw [ex2] at hr
  refine hr.mono ?_
  clear hr
  rintro e w6 ⟨rfl, p6, f6⟩
  replace HS := Aside0.mk (show Sup w6 us s7 from keep_super HA.out.pd f6 HS.out)
  replace HA := Aside0.mk (show AW w w6 db sb D3 from HA.out.disk f6 p6)
  clear p6 f6
  go_wp2_with fail
  obtain ⟨w7, hw7⟩ : ∃ z, z = w6.alloc (.cells #[.int .i64 s7.g, .int .i64 s7.b, .int .i64 s7.l, .int .i64 s7.p, .int .i64 s7.q, .int .i64 s7.o] 25) := ⟨_, rfl⟩
  have b7 : Below w6.heap.size w6 w7 := by rw [hw7]; exact (Below.refl _ _).alloc (Nat.le_refl _) _
  have HT := Aside0.mk (show Sup w7 w6.heap.size s7 by rw [hw7]; exact heap_alloc_new w6 _)
  replace HA := Aside0.mk (HA.out.step b7)
  replace HS := Aside0.mk (HS.out.step b7)
  rw [← hw7]
  obtain ⟨ut, hut⟩ : ∃ ut, ut = w6.heap.size := ⟨_, rfl⟩
  rw [← hut] at HT ⊢
  clear hw7 b7 hut
  have hr := Disk.read_uni HA.out.pd 1 (by rw [ex10.2.2.2.1]; decide)
  rw [ex3] at hr
  refine hr.mono ?_
  clear hr
  rintro e w8 ⟨v8, rfl, hr8, p8, f8⟩
  obtain ⟨A8, c8, rfl⟩ := Kd.R_slice hr8
  have HC8 := Aside0.mk (Kd.R_reads' hr8)
  replace HS := Aside0.mk (show Sup w8 us s7 from keep_super HA.out.pd f8 HS.out)
  replace HT := Aside0.mk (show Sup w8 ut s7 from keep_super HA.out.pd f8 HT.out)
  replace HA := Aside0.mk (show AW w w8 db sb D4 from HA.out.disk f8 p8)
  clear p8 f8 hr8
  rw [ex10.2.2.2.2.2.2] at HC8 ⊢
  obtain ⟨a8, rfl⟩ : ∃ a, A8 = some a := by obtain ⟨a, ha, _⟩ := HC8.out.2.2.2.2 (by decide); exact ⟨a, ha⟩
  have hc64 : 64 ≤ c8 := by have := HC8.out.2.1; omega
  go_wp2_with fail
  have hl64 : ((Disk.readV D3 1).take 64).length = 64 := by rw [List.length_take, ex10.2.2.2.2.2.2]; decide
  have hg := sget_any (w := w8) (some a8) c8 ((Disk.readV D3 1).take 64) (by rw [hl64]; have := HC8.out.2.2; rw [← ex10.2.2.2.2.2.2] at this; exact head_C this 64 (by rw [ex10.2.2.2.2.2.2]; decide)) (fun y hy => exB y (List.mem_of_mem_take hy)) (by rw [hl64]; exact hc64) (by rw [hl64]; decide)
  rw [hl64, ex4] at hg
  refine hg.mono ?_
  clear hg hl64 hc64 HC8
  rintro e w9 ⟨rfl, b9⟩
  replace HA := Aside0.mk (HA.out.step b9)
  replace HS := Aside0.mk (HS.out.step b9)
  replace HT := Aside0.mk (HT.out.step b9)
  clear b9
  go_wp2_with fail
  obtain ⟨w10, hw10⟩ : ∃ z, z = w9.alloc (.cells #[.int .i64 s7.g, .int .i64 s7.b, .int .i64 s7.l, .int .i64 s7.p, .int .i64 s7.q, .int .i64 s7.o] 25) := ⟨_, rfl⟩
  have b10 : Below w9.heap.size w9 w10 := by rw [hw10]; exact (Below.refl _ _).alloc (Nat.le_refl _) _
  have HX := Aside0.mk (show Sup w10 w9.heap.size s7 by rw [hw10]; exact heap_alloc_new w9 _)
  replace HA := Aside0.mk (HA.out.step b10)
  replace HS := Aside0.mk (HS.out.step b10)
  replace HT := Aside0.mk (HT.out.step b10)
  rw [← hw10]
  obtain ⟨ux, hux⟩ : ∃ ux, ux = w9.heap.size := ⟨_, rfl⟩
  rw [← hux] at HX ⊢
  clear hw10 b10 hux
  have hr := swrite_any HA.out.pd s17 (by rw [ex10.2.2.2.2.1]; decide)
  rw [ex5] at hr
  refine hr.mono ?_
  clear hr
  rintro e w11 ⟨rfl, p11, f11⟩
  replace HS := Aside0.mk (show Sup w11 us s7 from keep_super HA.out.pd f11 HS.out)
  replace HT := Aside0.mk (show Sup w11 ut s7 from keep_super HA.out.pd f11 HT.out)
  replace HX := Aside0.mk (show Sup w11 ux s7 from keep_super HA.out.pd f11 HX.out)
  replace HA := Aside0.mk (show AW w w11 db sb D4 from HA.out.disk f11 p11)
  clear p11 f11
  go_wp2_with fail
  have hr := swrite_any HA.out.pd s9 (by rw [ex10.2.2.2.2.1]; decide)
  rw [ex6] at hr
  refine hr.mono ?_
  clear hr
  rintro e w12 ⟨rfl, p12, f12⟩
  replace HS := Aside0.mk (show Sup w12 us s7 from keep_super HA.out.pd f12 HS.out)
  replace HT := Aside0.mk (show Sup w12 ut s7 from keep_super HA.out.pd f12 HT.out)
  replace HX := Aside0.mk (show Sup w12 ux s7 from keep_super HA.out.pd f12 HX.out)
  replace HA := Aside0.mk (show AW w w12 db sb D4 from HA.out.disk f12 p12)
  clear p12 f12
  go_wp2_with fail
  refine sread_nil.mono ?_
  rintro e w13 ⟨rfl, b13⟩
  replace HA := Aside0.mk (HA.out.step b13)
  replace HS := Aside0.mk (HS.out.step b13)
  replace HT := Aside0.mk (HT.out.step b13)
  replace HX := Aside0.mk (HX.out.step b13)
  clear b13
  go_wp2_with fail
  obtain ⟨w14, hw14⟩ : ∃ z, z = (w13.alloc (.cells #[.int .i64 zeroU.g, .int .i64 zeroU.b, .int .i64 zeroU.l, .int .i64 zeroU.p, .int .i64 zeroU.q, .int .i64 zeroU.o] 25)).alloc (.cells #[.int .u8 1] 5) := ⟨_, rfl⟩
  have b14 : Below w13.heap.size w13 w14 := by rw [hw14]; exact ((Below.refl _ _).alloc (Nat.le_refl _) _).alloc (by simp) _
  have hq : w14.heap[w13.heap.size + 1]? = some (.cells #[.int .u8 1] 5 (0, 0)) := by
    rw [hw14]
    have := heap_alloc_new (w13.alloc (.cells #[.int .i64 zeroU.g, .int .i64 zeroU.b, .int .i64 zeroU.l, .int .i64 zeroU.p, .int .i64 zeroU.q, .int .i64 zeroU.o] 25)) (.cells #[.int .u8 1] 5)
    rw [World.size_alloc] at this
    exact this
  rw [← hw14]
  clear hw14
  replace HA := Aside0.mk (HA.out.step b14)
  replace HS := Aside0.mk (HS.out.step b14)
  replace HT := Aside0.mk (HT.out.step b14)
  replace HX := Aside0.mk (HX.out.step b14)
  clear b14
  refine (Disk.Block_any _ 1 [1] (one_row hq) (Nat.le_refl _)).mono ?_
  rintro e w15 ⟨a15, c15, rfl, hc15, hr15, b15⟩
  have HR := Aside0.mk hr15
  clear hq hr15
  replace HA := Aside0.mk (HA.out.step b15)
  replace HS := Aside0.mk (HS.out.step b15)
  replace HT := Aside0.mk (HT.out.step b15)
  replace HX := Aside0.mk (HX.out.step b15)
  clear b15
  go_wp2_with fail
  have hr := Disk.write_uni HA.out.pd 1 (some a15) c15 one256 exC (fun y hy => by have := (Kd.R_reads' (Kd.R_below HR.out hy)).2.2; exact this) (by rw [ex10.2.2.2.2.1]; decide)
  rw [show one256.length = 256 from exL] at hr
  refine hr.mono ?_
  clear hr
  rintro e w16 ⟨rfl, p16, f16⟩
  replace HS := Aside0.mk (show Sup w16 us s7 from keep_super HA.out.pd f16 HS.out)
  replace HT := Aside0.mk (show Sup w16 ut s7 from keep_super HA.out.pd f16 HT.out)
  replace HX := Aside0.mk (show Sup w16 ux s7 from keep_super HA.out.pd f16 HX.out)
  replace HA := Aside0.mk (show AW w w16 db sb D5 from HA.out.disk f16 p16)
  clear p16 f16 HR
  go_wp2_with fail
  have hr := sread_any HA.out.pd (by rw [ex10.2.2.2.2.2.1]; decide)
  rw [ex7] at hr
  refine hr.mono ?_
  clear hr
  rintro e w17 ⟨rfl, p17, f17⟩
  replace HS := Aside0.mk (show Sup w17 us s7 from keep_super HA.out.pd f17 HS.out)
  replace HT := Aside0.mk (show Sup w17 ut s7 from keep_super HA.out.pd f17 HT.out)
  replace HX := Aside0.mk (show Sup w17 ux s7 from keep_super HA.out.pd f17 HX.out)
  have HB := Aside0.mk (HA.out.disk f17 p17).bel
  clear p17 f17 HA
  go_upto_region 13 with (fail)
  obtain ⟨w18, hw18⟩ : ∃ z, z = w17.alloc (.cells #[.int .i64 zeroU.g, .int .i64 zeroU.b, .int .i64 zeroU.l, .int .i64 zeroU.p, .int .i64 zeroU.q, .int .i64 zeroU.o] 25) := ⟨_, rfl⟩
  have b18 : Below w17.heap.size w17 w18 := by rw [hw18]; exact (Below.refl _ _).alloc (Nat.le_refl _) _
  replace HB := Aside0.mk (HB.out.trans (b18.mono HB.out.size))
  replace HS := Aside0.mk (HS.out.step b18)
  replace HT := Aside0.mk (HT.out.step b18)
  replace HX := Aside0.mk (HX.out.step b18)
  rw [← hw18]
  clear hw18 b18
  have hes := eq_self s7
  obtain ⟨⟨a10, a11, a12, a13, a14, a15⟩, _⟩ := cells6 HS.out
  obtain ⟨⟨c10, c11, c12, c13, c14, c15⟩, _⟩ := cells6 HT.out
  obtain ⟨⟨d10, d11, d12, d13, d14, d15⟩, _⟩ := cells6 HX.out
  go_wp2_with fail
  clear a10 a11 a12 a13 a14 a15 c10 c11 c12 c13 c14 c15 d10 d11 d12 d13 d14 d15
  refine (swrite_nil s7).mono ?_
  rintro e w19 ⟨rfl, b19⟩
  replace HB := Aside0.mk (HB.out.trans (b19.mono HB.out.size))
  replace HS := Aside0.mk (HS.out.step b19)
  replace HT := Aside0.mk (HT.out.step b19)
  replace HX := Aside0.mk (HX.out.step b19)
  clear b19
  obtain ⟨⟨a20, a21, a22, a23, a24, a25⟩, _⟩ := cells6 HS.out
  obtain ⟨⟨c20, c21, c22, c23, c24, c25⟩, _⟩ := cells6 HT.out
  obtain ⟨⟨d20, d21, d22, d23, d24, d25⟩, _⟩ := cells6 HX.out
  go_wp2_with fail
  clear a20 a21 a22 a23 a24 a25 c20 c21 c22 c23 c24 c25 d20 d21 d22 d23 d24 d25
  have hck := check_any (w := w19) s7.g s7.b s7.l s7.p s7.q s7.o
  rw [show supOk s7.g s7.b s7.l s7.p s7.q s7.o = true from ex8] at hck
  refine hck.mono ?_
  clear hck
  rintro e w20 ⟨rfl, b20⟩
  replace HB := Aside0.mk (HB.out.trans (b20.mono HB.out.size))
  replace HS := Aside0.mk (HS.out.step b20)
  replace HT := Aside0.mk (HT.out.step b20)
  replace HX := Aside0.mk (HX.out.step b20)
  clear b20
  go_wp2_with fail
  have hck := check_any (w := w20) 0 0 0 0 0 0
  rw [show supOk 0 0 0 0 0 0 = false from ex9] at hck
  refine hck.mono ?_
  clear hck
  rintro e w21 ⟨rfl, b21⟩
  replace HB := Aside0.mk (HB.out.trans (b21.mono HB.out.size))
  replace HS := Aside0.mk (HS.out.step b21)
  replace HT := Aside0.mk (HT.out.step b21)
  replace HX := Aside0.mk (HX.out.step b21)
  clear b21
  go_wp2_with fail
  go_ret
  exact ⟨rfl, HB.out⟩
end Supr
end Go.Proofs.Ytopfjmeejpamjaa
end
section
namespace Go.Proofs.Ytopfjmeejpamjaa
set_option linter.unusedVariables false
set_option linter.unusedSimpArgs false
set_option linter.ambiguousOpen false
open Go.RowKit Go.Proofs.YtopfjmeejpamjaaW.PrintWords Go.Proofs.YtopfjmeejpamjaaW.PrintLast Go.Proofs.YtopfjmeejpamjaaW.PrintMore
namespace Supr
open Go.Num Go.Crc Go.Proofs.Ytopfjmeejpamjaa.Cell Go.Proofs.Ytopfjmeejpamjaa.Sect
theorem ready_any {D : Go.Disk.Dk} (h16 : 16 ≤ D.safe.length) (ho : D.off = false) (n : Int) (hn : n = 0 ∨ n = 1) : Go.Disk.ready D n = 0 := Disk.ready_ok ho n (by omega) (by omega)
end Supr
end Go.Proofs.Ytopfjmeejpamjaa
end
section
namespace Go.Proofs.Ytopfjmeejpamjaa
set_option linter.unusedVariables false
set_option linter.unusedSimpArgs false
set_option linter.ambiguousOpen false
open Go.RowKit Go.Proofs.YtopfjmeejpamjaaW.PrintWords Go.Proofs.YtopfjmeejpamjaaW.PrintLast Go.Proofs.YtopfjmeejpamjaaW.PrintMore
namespace Supr
open Go.Num Go.Crc Go.Proofs.Ytopfjmeejpamjaa.Cell Go.Proofs.Ytopfjmeejpamjaa.Sect
theorem keep_tag {w w' : World} {base db sb ub t : Nat} {D : Go.Disk.Dk} {uc : Array Value} (h : Disk.PD w base db sb D) (f : Disk.FP base db sb w w') (h1 : t ≠ 91) (h2 : t ≠ 5) (h3 : t ≠ 94) (hu : w.heap[ub]? = some (.cells uc t (0, 0))) : w'.heap[ub]? = some (.cells uc t (0, 0)) := by
  obtain ⟨⟨_, k1⟩, _, k2⟩ := pd_tags h
  exact (f.block ub (blk_lt hu) (fun e => e.elim (fun e => tag_ne hu k1 h1 e) (fun e => tag_ne hu k2 h2 e)) (fun c t' fz hc e => by
    rw [hu] at hc
    cases hc
    exact absurd e.2 h3)).trans hu
structure LW (w0 w : World) (a b : SU) (cs : Array Value) : Prop where
  bel : Below w0.heap.size w0 w
  sa : Sup w w0.heap.size a
  sb : Sup w (w0.heap.size + 1) b
  sc : w.heap[w0.heap.size + 1 + 1]? = some (.cells cs 39 (0, 0))
theorem LW.step {w0 w w' : World} {a b : SU} {cs : Array Value} (h : LW w0 w a b cs) (f : Below w.heap.size w w') : LW w0 w' a b cs :=
  ⟨h.bel.trans (f.mono h.bel.size), h.sa.step f, h.sb.step f, (f.block _ (blk_lt h.sc)).trans h.sc⟩
theorem LW.disk {w0 w w' : World} {a b : SU} {cs : Array Value} {db sb : Nat} {D : Go.Disk.Dk} (h : LW w0 w a b cs) (p : Disk.PD w w0.heap.size db sb D) (hd : w0.heap.size ≤ db) (hs : w0.heap.size ≤ sb) (f : Disk.FP w0.heap.size db sb w w') : LW w0 w' a b cs :=
  ⟨h.bel.trans (Disk.FP.below f hd hs h.bel.size), keep_super p f h.sa, keep_super p f h.sb, keep_tag p f (by decide) (by decide) (by decide) h.sc⟩
theorem pd_low {w : World} {base base' db sb : Nat} {D : Go.Disk.Dk} (h : Disk.PD w base db sb D) (hb : base' ≤ base) : Disk.PD w base' db sb D := by
  obtain ⟨vw, cs, sp, h⟩ := h
  exact ⟨vw, cs, sp, h.ok, Nat.le_trans hb h.dbase, Nat.le_trans hb h.sbase, fun k hk => Nat.le_trans hb (h.wown k hk), h.cells, h.waits, h.safe, h.room⟩
theorem writeU_waits (D : Go.Disk.Dk) (s : SU) : (writeU D s).1.waits.length ≤ D.waits.length + 1 := by
  have h := write_waits D (Int.tmod s.g 2) (blockU s)
  unfold writeU
  split
  · split
    · exact h
    · refine Nat.le_trans ?_ h
      show (Disk.flushF _).waits.length ≤ _
      have := Disk.waits_do (Disk.writeD D (Int.tmod s.g 2) (blockU s)).1 3 0 [] false []
      unfold Disk.flushF
      split
      · exact Nat.le_refl _
      · split
        · rw [Disk.waits_deed]; exact Nat.le_refl _
        · exact Nat.zero_le _
  · exact Nat.le_succ _
end Supr
end Go.Proofs.Ytopfjmeejpamjaa
end
section
namespace Go.Proofs.Ytopfjmeejpamjaa
set_option linter.unusedVariables false
set_option linter.unusedSimpArgs false
set_option linter.ambiguousOpen false
open Go.RowKit Go.Proofs.YtopfjmeejpamjaaW.PrintWords Go.Proofs.YtopfjmeejpamjaaW.PrintLast Go.Proofs.YtopfjmeejpamjaaW.PrintMore
namespace Supr
open Go.Num Go.Crc Go.Proofs.Ytopfjmeejpamjaa.Cell Go.Proofs.Ytopfjmeejpamjaa.Sect
theorem xor8_byte (x y : Int) : 0 ≤ Go.bits .xor .u8 x y ∧ Go.bits .xor .u8 x y ≤ 255 := by
  unfold Go.bits
  simp only
  show 0 ≤ IntKind.wrap .u8 _ ∧ IntKind.wrap .u8 _ ≤ 255
  rw [IntKind.wrap_u8]
  omega
abbrev slotC (s t : SU) (p0 p1 : Int) (t0 t1 : Bool) (a0 a1 u0 u1 : Int) : Array Value := #[.int .i64 s.g, .int .i64 s.b, .int .i64 s.l, .int .i64 s.p, .int .i64 s.q, .int .i64 s.o, .int .i64 t.g, .int .i64 t.b, .int .i64 t.l, .int .i64 t.p, .int .i64 t.q, .int .i64 t.o, .int .u8 p0, .int .u8 p1, .bool t0, .bool t1, .int .u8 a0, .int .u8 a1, .int .u8 u0, .int .u8 u1]
structure IW (w0 w : World) (g : Nat) (cs : Array Value) (bs : List Int) : Prop where
  bel : Below w0.heap.size w0 w
  box : w.heap[w0.heap.size]? = some (.cells cs 52 (0, 0))
  row : w.heap[g]? = some (.cells (u8s bs).toArray 5 (0, 0))
  low : w0.heap.size ≤ g
  len : bs.length = 4096
  byte : ∀ y ∈ bs, 0 ≤ y ∧ y ≤ 255
theorem IW.step {w0 w w' : World} {g : Nat} {cs : Array Value} {bs : List Int} (h : IW w0 w g cs bs) (f : Below w.heap.size w w') : IW w0 w' g cs bs :=
  ⟨h.bel.trans (f.mono h.bel.size), (f.block _ (blk_lt h.box)).trans h.box, (f.block _ (blk_lt h.row)).trans h.row, h.low, h.len, h.byte⟩
theorem IW.set {w0 w : World} {g : Nat} {cs : Array Value} {bs : List Int} (h : IW w0 w g cs bs) (j : Nat) (x : Int) (hx : 0 ≤ x ∧ x ≤ 255) : IW w0 (w.setCell ⟨g, j, none⟩ (.int .u8 x)) g cs (bs.set j x) := by
  refine ⟨h.bel.setCell (p := ⟨g, j, none⟩) h.low _, (Below.heap_setCell _ _ _ _ (tag_ne h.box h.row (by decide))).trans h.box, ?_, h.low, by rw [List.length_set]; exact h.len, fun y hy => ?_⟩
  · rw [blk_set h.row j _]
    have e : (u8s bs).set j (.int .u8 x) = u8s (bs.set j x) := (List.map_set (f := Value.int .u8)).symm
    rw [← e]
    simp
  · rcases List.mem_or_eq_of_mem_set hy with h1 | h1
    · exact h.byte y h1
    · rw [h1]; exact hx
theorem IW.at_ {w0 w : World} {g : Nat} {cs : Array Value} {bs : List Int} (h : IW w0 w g cs bs) (j : Nat) (hj : j < 4096) : w.cell? ⟨g, j, none⟩ = some (.int .u8 (bs.getD j 0)) ∧ w.frozen? ⟨g, j, none⟩ = false ∧ 0 ≤ bs.getD j 0 ∧ bs.getD j 0 ≤ 255 := by
  have hl : j < bs.length := by rw [h.len]; exact hj
  have hg : bs.getD j 0 = bs[j] := by rw [List.getD_eq_getElem?_getD, List.getElem?_eq_getElem hl]; rfl
  refine ⟨?_, frozen_blk h.row, ?_⟩
  · rw [cell_blk h.row, List.getElem?_toArray, hg]
    unfold u8s
    rw [List.getElem?_map, List.getElem?_eq_getElem hl]
    rfl
  · rw [hg]; exact h.byte _ (List.getElem_mem _)
theorem made4096 (W : World) : (Instr.makeSlice 26 (.int .i64 4096) (.int .i64 4096)).run Try.prog W = .ok (.slice (some ⟨W.heap.size, 0, none⟩) 4096 4096) (W.alloc (.cells (u8s (List.replicate 4096 0)).toArray 5)) := by
  have := make8 4096 (by omega) W
  rw [made8] at this
  exact this
theorem R_far {w : World} {base g j : Nat} {u v : Value} {xs : List Int} (h : Kd.R (Kd.int .u8) 5 w base (fun _ => True) v xs) (hg : g < base) : Kd.R (Kd.int .u8) 5 (w.setCell ⟨g, j, none⟩ u) base (fun _ => True) v xs :=
  Kd.R_mono (Kd.R_step (Kd.R_bound h) (fun k hk hlt => Below.heap_setCell w ⟨g, j, none⟩ u k (fun e => by
    have h1 := hk.2.1
    have e : k = g := e
    omega))) (fun _ _ => trivial)
set_option maxHeartbeats 32000000 in
set_option maxRecDepth 100000 in
theorem image_any {w : World} (s t : SU) (p0 p1 : Int) (t0 t1 : Bool) (a0 a1 u0 u1 : Int) (hp0 : 0 ≤ p0 ∧ p0 ≤ 255) (hp1 : 0 ≤ p1 ∧ p1 ≤ 255) (ha0 : 0 ≤ a0 ∧ a0 ≤ 255) (ha1 : 0 ≤ a1 ∧ a1 ≤ 255) (hu0 : 0 ≤ u0 ∧ u0 ≤ 255) (hu1 : 0 ≤ u1 ∧ u1 ≤ 255) :
    Calls Try.prog 20 #[.agg (slotC s t p0 p1 t0 t1 a0 a1 u0 u1)] w fun r w' => ∃ (g : Nat) (bs : List Int), r = .returned (.slice (some ⟨g, 0, none⟩) 4096 4096) ∧ bs.length = 4096 ∧ (∀ y ∈ bs, 0 ≤ y ∧ y ≤ 255) ∧ w'.heap[g]? = some (.cells (u8s bs).toArray 5 (0, 0)) ∧ Below w.heap.size w w' := by
  have HP0 := Aside0.mk hp0
  have HP1 := Aside0.mk hp1
  obtain ⟨n0, hn0⟩ := Int.eq_ofNat_of_zero_le ha0.1
  obtain ⟨n1, hn1⟩ := Int.eq_ofNat_of_zero_le ha1.1
  subst hn0 hn1
  have HA0 := Aside0.mk (show n0 ≤ 255 by omega)
  have HA1 := Aside0.mk (show n1 ≤ 255 by omega)
  clear hp0 hp1 ha0 ha1 hu0 hu1
  have hmk := made4096
  obtain ⟨Z, hZ⟩ : ∃ Z, Z = (u8s (List.replicate 4096 0)).toArray := ⟨_, rfl⟩
  rw [← hZ] at hmk
  obtain ⟨w1, hw1⟩ : ∃ w1, w1 = (w.alloc (.cells (slotC s t p0 p1 t0 t1 (n0 : Int) (n1 : Int) u0 u1) 52)).alloc (.cells Z 5) := ⟨_, rfl⟩
  obtain ⟨cs, hcs⟩ : ∃ cs, cs = slotC s t p0 p1 t0 t1 (n0 : Int) (n1 : Int) u0 u1 := ⟨_, rfl⟩
  have HI := Aside0.mk (show IW w w1 (w.heap.size + 1) cs (List.replicate 4096 0) from ⟨by rw [hw1]; exact ((Below.refl _ _).alloc (Nat.le_refl _) _).alloc (by simp) _, by
    rw [hw1, hcs, Below.heap_alloc _ _ _ (by simp)]
    exact heap_alloc_new w _, by
    rw [hw1]
    have := heap_alloc_new (w.alloc (.cells (slotC s t p0 p1 t0 t1 (n0 : Int) (n1 : Int) u0 u1) 52)) (.cells Z 5)
    rw [World.size_alloc] at this
    rw [← hZ]
    exact this, by omega, List.length_replicate, fun y hy => by have := (List.mem_replicate.1 hy).2; omega⟩)
  have HW1 := Aside0.mk hw1
  have HCS := Aside0.mk hcs
  clear hw1 hcs hZ
  go_enter Try.func20, Try.ntmps20
  go_wp2_with fail
  rw [← HW1.out]
  obtain ⟨g, hg⟩ : ∃ g, g = w.heap.size + 1 := ⟨_, rfl⟩
  rw [← hg] at HI ⊢
  clear hg HW1 hmk
  go_loopg [4] 2 (fun gk v4 wr => ∃ (i : Nat) (I : Int) (bs : List Int), Aside0 (i + gk = 2) ∧ Aside0 (I = i) ∧ v4 = .int .i64 I ∧ Aside0 (IW w wr g cs bs))
  case atStart => exact ⟨0, 0, _, ⟨by omega⟩, ⟨rfl⟩, rfl, HI⟩
  case round =>
    clear HI
    obtain ⟨i, I, bs, HG, HII, rfl, HI⟩ := hrel
    rcases (show i = 0 ∨ i = 1 ∨ i = 2 by have := HG.out; omega) with rfl | rfl | rfl
    · obtain rfl : I = 0 := HII.out
      have k0 : wr.cell? ⟨w.heap.size, 0, none⟩ = some (.int .i64 s.g) := by have := cell_blk (k := 0) HI.out.box; rw [HCS.out] at this; exact this
      have k1 : wr.cell? ⟨w.heap.size, 1, none⟩ = some (.int .i64 s.b) := by have := cell_blk (k := 1) HI.out.box; rw [HCS.out] at this; exact this
      have k2 : wr.cell? ⟨w.heap.size, 2, none⟩ = some (.int .i64 s.l) := by have := cell_blk (k := 2) HI.out.box; rw [HCS.out] at this; exact this
      have k3 : wr.cell? ⟨w.heap.size, 3, none⟩ = some (.int .i64 s.p) := by have := cell_blk (k := 3) HI.out.box; rw [HCS.out] at this; exact this
      have k4 : wr.cell? ⟨w.heap.size, 4, none⟩ = some (.int .i64 s.q) := by have := cell_blk (k := 4) HI.out.box; rw [HCS.out] at this; exact this
      have k5 : wr.cell? ⟨w.heap.size, 5, none⟩ = some (.int .i64 s.o) := by have := cell_blk (k := 5) HI.out.box; rw [HCS.out] at this; exact this
      obtain ⟨P, hP⟩ : ∃ P, P = s.put := ⟨_, rfl⟩
      obtain ⟨pl, hpl⟩ : ∃ pl, pl = P.1.length := ⟨_, rfl⟩
      obtain ⟨pe, hpe⟩ : ∃ pe, pe = P.2 := ⟨_, rfl⟩
      have HPL := Aside0.mk (show pl = P.1.length ∧ pl ≤ 64 by
        refine ⟨hpl, ?_⟩
        rw [hpl, hP]
        cases h : s.ok with
        | true => rw [show s.put.1.length = 64 from put_yes_len h]; decide
        | false => rw [show s.put = ([], 1) from put_no h]; exact Nat.zero_le _)
      have HPB := Aside0.mk (show ∀ y ∈ P.1, 0 ≤ y ∧ y ≤ 255 by rw [hP]; exact put_bytes _ _ _ _ _ _)
      have hput := xsput_R (w := wr) s.g s.b s.l s.p s.q s.o
      rw [show putU s.g s.b s.l s.p s.q s.o = P from hP.symm, ← hpe] at hput
      have HPUT := Aside0.mk hput
      clear hP hpl hpe hput
      go_wp2_with fail
      clear k0 k1 k2 k3 k4 k5
      refine HPUT.out.mono ?_
      clear HPUT
      rintro r w2 ⟨v2, rfl, hR2, b2⟩
      obtain ⟨A2, c2, rfl⟩ := Kd.R_slice hR2
      rw [← HPL.out.1] at hR2 ⊢
      have HI2 := Aside0.mk (HI.out.step b2)
      have HR2 := Aside0.mk hR2
      have hgl := blk_lt HI.out.row
      obtain ⟨B0, hB0⟩ : ∃ B0, B0 = wr.heap.size := ⟨_, rfl⟩
      rw [← hB0] at HR2 hgl
      have HGL := Aside0.mk hgl
      clear hgl hB0
      clear HI b2 hR2
      go_upto_region 6 with (fail)
      have k0 : w2.cell? ⟨w.heap.size, 12, none⟩ = some (.int .u8 p0) := by have := cell_blk (k := 12) HI2.out.box; rw [HCS.out] at this; exact this
      go_cut [7] from 22 to 28 (fun v7 wc => ∃ an : Nat, v7 = .int .i64 (an : Int) ∧ Aside0 (an ≤ 256) ∧ wc = w2)
      case first =>
        rcases (show Int.tmod p0 2 = 0 ∨ Int.tmod p0 2 = 1 by have := HP0.out; rw [Int.tmod_eq_emod_of_nonneg this.1]; omega) with hm | hm
        · go_wp2_with fail
          go_meet
          case rel => exact ⟨0, rfl, ⟨by decide⟩, rfl⟩
        · go_wp2_with fail
          go_meet
          case rel => exact ⟨256, rfl, ⟨by decide⟩, rfl⟩
      case rest =>
        obtain ⟨an, rfl, HAN, hwc⟩ := hcut
        obtain rfl : wc = w2 := hwc
        clear k0
        go_wp2_with fail
        go_loopg [8] pl (fun gk v8 wr => ∃ (k : Nat) (bs2 : List Int), Aside0 (k + gk = pl) ∧ v8 = .int .i64 (k : Int) ∧ Aside0 (IW w wr g cs bs2) ∧ Aside0 (Kd.R (Kd.int .u8) 5 wr B0 (fun _ => True) (.slice A2 pl c2) P.1))
        case atStart => exact ⟨0, bs, ⟨by omega⟩, rfl, HI2, HR2⟩
        case round =>
          clear HI2 HR2
          obtain ⟨k, bs2, HK, rfl, HI, HR⟩ := hrel
          have kt : wr.cell? ⟨w.heap.size, 14, none⟩ = some (.bool t0) := by have := cell_blk (k := 14) HI.out.box; rw [HCS.out] at this; exact this
          by_cases hk : k < pl
          · have hkk : (k : Int) < (pl : Int) := by omega
            by_cases htt : t0 = true
            · rw [htt] at kt
              by_cases hpe : pe = 0
              · have hpb : (pe == 0) = true := by simp [hpe]
                obtain ⟨ad, hadA, hcx⟩ := Kd.at_int (Kd.R_reads' HR.out).2.2 (k : Int) (by omega) (by rw [← HPL.out.1]; omega)
                cases hadA
                rw [Int.toNat_natCast] at hcx
                obtain ⟨x, hx⟩ : ∃ x, x = rd P.1 (k : Int) := ⟨_, rfl⟩
                rw [← hx] at hcx
                have HXB := Aside0.mk (show 0 ≤ x ∧ x ≤ 255 by rw [hx]; exact rd_byte HPB.out k)
                have hj : an + k < 4096 := by have := HAN.out; have := HPL.out.2; omega
                obtain ⟨j1, j2, _⟩ := HI.out.at_ (an + k) hj
                have h64 := HPL.out.2
                have h256 := HAN.out
                clear hx
                go_wp2_with fail
                go_roundg (pl - (k + 1))
                case measure => have := HK.out; omega
                case rel => exact ⟨k + 1, bs2.set (an + k) x, ⟨by have := HK.out; omega⟩, by go_num, ⟨HI.out.set (an + k) x HXB.out⟩, ⟨R_far HR.out HGL.out⟩⟩
              · have hpb : (pe == 0) = false := by simpa using hpe
                go_wp2_with fail
                clear kt
                have hw : wrap64 (n0 : Int) = (n0 : Int) := by have := HA0.out; unfold wrap64; omega
                have hj : an + n0 < 4096 := by have := HAN.out; have := HA0.out; omega
                obtain ⟨x, hx⟩ : ∃ x, x = bs2.getD (an + n0) 0 := ⟨_, rfl⟩
                obtain ⟨y, hy⟩ : ∃ y, y = Go.bits .xor .u8 x u0 := ⟨_, rfl⟩
                have HY := Aside0.mk (show 0 ≤ y ∧ y ≤ 255 by rw [hy]; exact xor8_byte _ _)
                have hxy := hy.symm
                have HAT := Aside0.mk (HI.out.at_ (an + n0) hj)
                rw [← hx] at HAT
                have m0 : ∀ m : Go.Reg.In (fun x => x = wr.drew), m.w.cell? ⟨g, an + n0, none⟩ = some (.int .u8 x) := fun m => by rw [m.h]; exact HAT.out.1
                have m1 : ∀ m : Go.Reg.In (fun x => x = wr.drew), m.w.cell? ⟨w.heap.size, 16, none⟩ = some (.int .u8 n0) := fun m => by
                  rw [m.h]
                  have := cell_blk (k := 16) (w := wr.drew) HI.out.box
                  rw [HCS.out] at this
                  exact this
                have m2 : ∀ m : Go.Reg.In (fun x => x = wr.drew), m.w.cell? ⟨w.heap.size, 18, none⟩ = some (.int .u8 u0) := fun m => by
                  rw [m.h]
                  have := cell_blk (k := 18) (w := wr.drew) HI.out.box
                  rw [HCS.out] at this
                  exact this
                have h255 := HA0.out
                have h256 := HAN.out
                clear hx hy
                go_upto_region 11 with (fail)
                refine Go.Reg.region (fun x => x = wr.drew) [.s, .s, .s, .s, .s, .s, .s, .s, .s, .s, .s, .s, .s, .s, .s, .s, .s, .s, .s, .s, .s, .s, .s, .s, .x] (by kernel_rfl) (by kernel_rfl) rfl (fun ne => ?_)
                refine Go.Reg.lex_q 24 _ _ _ _ (by rfl) ?_; simp only [List.take_succ_cons, List.take_zero, List.drop_succ_cons, List.drop_zero]; (repeat (go_big_quiet_step (rfl)))
                refine wpQuiet_nil ?_
                refine Go.Reg.step_x (by rfl) (fun K hK => ?_)
                have hs0 : wr.cell? ⟨g, an + n0, none⟩ = some (.int .u8 x) := HAT.out.1
                have hs1 : wr.frozen? ⟨g, an + n0, none⟩ = false := HAT.out.2.1
                clear m0 m1 m2
                go_wp2_with fail
                refine hK.out _ _ ?_
                clear hK K
                refine Go.Reg.lex_nil ?_
                clear hs0 hs1 hxy h255 h256 hw
                obtain ⟨w5, hw5⟩ : ∃ z, z = (wr.setCell ⟨g, an + n0, none⟩ (.int .u8 y)).drew := ⟨_, rfl⟩
                have HI5 := Aside0.mk (show IW w w5 g cs (bs2.set (an + n0) y) by rw [hw5]; exact (HI.out.set (an + n0) y HY.out).step (below_drew1 (Below.refl _ _)))
                rw [← hw5]
                clear hw5 HI
                go_wp2_with fail
                go_roundg (2 - 1)
                case measure => have := HG.out; omega
                case rel => exact ⟨1, 1, bs2.set (an + n0) y, ⟨by have := HG.out; omega⟩, ⟨rfl⟩, rfl, HI5⟩
            · have htf : t0 = false := by simpa using htt
              rw [htf] at kt
              go_wp2_with fail
              clear kt
              have hw : wrap64 (n0 : Int) = (n0 : Int) := by have := HA0.out; unfold wrap64; omega
              have hj : an + n0 < 4096 := by have := HAN.out; have := HA0.out; omega
              obtain ⟨x, hx⟩ : ∃ x, x = bs2.getD (an + n0) 0 := ⟨_, rfl⟩
              obtain ⟨y, hy⟩ : ∃ y, y = Go.bits .xor .u8 x u0 := ⟨_, rfl⟩
              have HY := Aside0.mk (show 0 ≤ y ∧ y ≤ 255 by rw [hy]; exact xor8_byte _ _)
              have hxy := hy.symm
              have HAT := Aside0.mk (HI.out.at_ (an + n0) hj)
              rw [← hx] at HAT
              have m0 : ∀ m : Go.Reg.In (fun x => x = wr.drew), m.w.cell? ⟨g, an + n0, none⟩ = some (.int .u8 x) := fun m => by rw [m.h]; exact HAT.out.1
              have m1 : ∀ m : Go.Reg.In (fun x => x = wr.drew), m.w.cell? ⟨w.heap.size, 16, none⟩ = some (.int .u8 n0) := fun m => by
                rw [m.h]
                have := cell_blk (k := 16) (w := wr.drew) HI.out.box
                rw [HCS.out] at this
                exact this
              have m2 : ∀ m : Go.Reg.In (fun x => x = wr.drew), m.w.cell? ⟨w.heap.size, 18, none⟩ = some (.int .u8 u0) := fun m => by
                rw [m.h]
                have := cell_blk (k := 18) (w := wr.drew) HI.out.box
                rw [HCS.out] at this
                exact this
              have h255 := HA0.out
              have h256 := HAN.out
              clear hx hy
              go_upto_region 11 with (fail)
              refine Go.Reg.region (fun x => x = wr.drew) [.s, .s, .s, .s, .s, .s, .s, .s, .s, .s, .s, .s, .s, .s, .s, .s, .s, .s, .s, .s, .s, .s, .s, .s, .x] (by kernel_rfl) (by kernel_rfl) rfl (fun ne => ?_)
              refine Go.Reg.lex_q 24 _ _ _ _ (by rfl) ?_; simp only [List.take_succ_cons, List.take_zero, List.drop_succ_cons, List.drop_zero]; (repeat (go_big_quiet_step (rfl)))
              refine wpQuiet_nil ?_
              refine Go.Reg.step_x (by rfl) (fun K hK => ?_)
              have hs0 : wr.cell? ⟨g, an + n0, none⟩ = some (.int .u8 x) := HAT.out.1
              have hs1 : wr.frozen? ⟨g, an + n0, none⟩ = false := HAT.out.2.1
              clear m0 m1 m2
              go_wp2_with fail
              refine hK.out _ _ ?_
              clear hK K
              refine Go.Reg.lex_nil ?_
              clear hs0 hs1 hxy h255 h256 hw
              obtain ⟨w5, hw5⟩ : ∃ z, z = (wr.setCell ⟨g, an + n0, none⟩ (.int .u8 y)).drew := ⟨_, rfl⟩
              have HI5 := Aside0.mk (show IW w w5 g cs (bs2.set (an + n0) y) by rw [hw5]; exact (HI.out.set (an + n0) y HY.out).step (below_drew1 (Below.refl _ _)))
              rw [← hw5]
              clear hw5 HI
              go_wp2_with fail
              go_roundg (2 - 1)
              case measure => have := HG.out; omega
              case rel => exact ⟨1, 1, bs2.set (an + n0) y, ⟨by have := HG.out; omega⟩, ⟨rfl⟩, rfl, HI5⟩
          · have hkk : ¬ (k : Int) < (pl : Int) := by omega
            go_wp2_with fail
            clear kt
            have hw : wrap64 (n0 : Int) = (n0 : Int) := by have := HA0.out; unfold wrap64; omega
            have hj : an + n0 < 4096 := by have := HAN.out; have := HA0.out; omega
            obtain ⟨x, hx⟩ : ∃ x, x = bs2.getD (an + n0) 0 := ⟨_, rfl⟩
            obtain ⟨y, hy⟩ : ∃ y, y = Go.bits .xor .u8 x u0 := ⟨_, rfl⟩
            have HY := Aside0.mk (show 0 ≤ y ∧ y ≤ 255 by rw [hy]; exact xor8_byte _ _)
            have hxy := hy.symm
            have HAT := Aside0.mk (HI.out.at_ (an + n0) hj)
            rw [← hx] at HAT
            have m0 : ∀ m : Go.Reg.In (fun x => x = wr.drew), m.w.cell? ⟨g, an + n0, none⟩ = some (.int .u8 x) := fun m => by rw [m.h]; exact HAT.out.1
            have m1 : ∀ m : Go.Reg.In (fun x => x = wr.drew), m.w.cell? ⟨w.heap.size, 16, none⟩ = some (.int .u8 n0) := fun m => by
              rw [m.h]
              have := cell_blk (k := 16) (w := wr.drew) HI.out.box
              rw [HCS.out] at this
              exact this
            have m2 : ∀ m : Go.Reg.In (fun x => x = wr.drew), m.w.cell? ⟨w.heap.size, 18, none⟩ = some (.int .u8 u0) := fun m => by
              rw [m.h]
              have := cell_blk (k := 18) (w := wr.drew) HI.out.box
              rw [HCS.out] at this
              exact this
            have h255 := HA0.out
            have h256 := HAN.out
            clear hx hy
            go_upto_region 11 with (fail)
            refine Go.Reg.region (fun x => x = wr.drew) [.s, .s, .s, .s, .s, .s, .s, .s, .s, .s, .s, .s, .s, .s, .s, .s, .s, .s, .s, .s, .s, .s, .s, .s, .x] (by kernel_rfl) (by kernel_rfl) rfl (fun ne => ?_)
            refine Go.Reg.lex_q 24 _ _ _ _ (by rfl) ?_; simp only [List.take_succ_cons, List.take_zero, List.drop_succ_cons, List.drop_zero]; (repeat (go_big_quiet_step (rfl)))
            refine wpQuiet_nil ?_
            refine Go.Reg.step_x (by rfl) (fun K hK => ?_)
            have hs0 : wr.cell? ⟨g, an + n0, none⟩ = some (.int .u8 x) := HAT.out.1
            have hs1 : wr.frozen? ⟨g, an + n0, none⟩ = false := HAT.out.2.1
            clear m0 m1 m2
            go_wp2_with fail
            refine hK.out _ _ ?_
            clear hK K
            refine Go.Reg.lex_nil ?_
            clear hs0 hs1 hxy h255 h256 hw
            obtain ⟨w5, hw5⟩ : ∃ z, z = (wr.setCell ⟨g, an + n0, none⟩ (.int .u8 y)).drew := ⟨_, rfl⟩
            have HI5 := Aside0.mk (show IW w w5 g cs (bs2.set (an + n0) y) by rw [hw5]; exact (HI.out.set (an + n0) y HY.out).step (below_drew1 (Below.refl _ _)))
            rw [← hw5]
            clear hw5 HI
            go_wp2_with fail
            go_roundg (2 - 1)
            case measure => have := HG.out; omega
            case rel => exact ⟨1, 1, bs2.set (an + n0) y, ⟨by have := HG.out; omega⟩, ⟨rfl⟩, rfl, HI5⟩
    · obtain rfl : I = 1 := HII.out
      have k0 : wr.cell? ⟨w.heap.size, 6, none⟩ = some (.int .i64 t.g) := by have := cell_blk (k := 6) HI.out.box; rw [HCS.out] at this; exact this
      have k1 : wr.cell? ⟨w.heap.size, 7, none⟩ = some (.int .i64 t.b) := by have := cell_blk (k := 7) HI.out.box; rw [HCS.out] at this; exact this
      have k2 : wr.cell? ⟨w.heap.size, 8, none⟩ = some (.int .i64 t.l) := by have := cell_blk (k := 8) HI.out.box; rw [HCS.out] at this; exact this
      have k3 : wr.cell? ⟨w.heap.size, 9, none⟩ = some (.int .i64 t.p) := by have := cell_blk (k := 9) HI.out.box; rw [HCS.out] at this; exact this
      have k4 : wr.cell? ⟨w.heap.size, 10, none⟩ = some (.int .i64 t.q) := by have := cell_blk (k := 10) HI.out.box; rw [HCS.out] at this; exact this
      have k5 : wr.cell? ⟨w.heap.size, 11, none⟩ = some (.int .i64 t.o) := by have := cell_blk (k := 11) HI.out.box; rw [HCS.out] at this; exact this
      obtain ⟨P, hP⟩ : ∃ P, P = t.put := ⟨_, rfl⟩
      obtain ⟨pl, hpl⟩ : ∃ pl, pl = P.1.length := ⟨_, rfl⟩
      obtain ⟨pe, hpe⟩ : ∃ pe, pe = P.2 := ⟨_, rfl⟩
      have HPL := Aside0.mk (show pl = P.1.length ∧ pl ≤ 64 by
        refine ⟨hpl, ?_⟩
        rw [hpl, hP]
        cases h : t.ok with
        | true => rw [show t.put.1.length = 64 from put_yes_len h]; decide
        | false => rw [show t.put = ([], 1) from put_no h]; exact Nat.zero_le _)
      have HPB := Aside0.mk (show ∀ y ∈ P.1, 0 ≤ y ∧ y ≤ 255 by rw [hP]; exact put_bytes _ _ _ _ _ _)
      have hput := xsput_R (w := wr) t.g t.b t.l t.p t.q t.o
      rw [show putU t.g t.b t.l t.p t.q t.o = P from hP.symm, ← hpe] at hput
      have HPUT := Aside0.mk hput
      clear hP hpl hpe hput
      go_wp2_with fail
      clear k0 k1 k2 k3 k4 k5
      refine HPUT.out.mono ?_
      clear HPUT
      rintro r w2 ⟨v2, rfl, hR2, b2⟩
      obtain ⟨A2, c2, rfl⟩ := Kd.R_slice hR2
      rw [← HPL.out.1] at hR2 ⊢
      have HI2 := Aside0.mk (HI.out.step b2)
      have HR2 := Aside0.mk hR2
      have hgl := blk_lt HI.out.row
      obtain ⟨B0, hB0⟩ : ∃ B0, B0 = wr.heap.size := ⟨_, rfl⟩
      rw [← hB0] at HR2 hgl
      have HGL := Aside0.mk hgl
      clear hgl hB0
      clear HI b2 hR2
      go_upto_region 6 with (fail)
      have k0 : w2.cell? ⟨w.heap.size, 13, none⟩ = some (.int .u8 p1) := by have := cell_blk (k := 13) HI2.out.box; rw [HCS.out] at this; exact this
      go_cut [7] from 22 to 28 (fun v7 wc => ∃ an : Nat, v7 = .int .i64 (an : Int) ∧ Aside0 (an ≤ 256) ∧ wc = w2)
      case first =>
        rcases (show Int.tmod p1 2 = 0 ∨ Int.tmod p1 2 = 1 by have := HP1.out; rw [Int.tmod_eq_emod_of_nonneg this.1]; omega) with hm | hm
        · go_wp2_with fail
          go_meet
          case rel => exact ⟨0, rfl, ⟨by decide⟩, rfl⟩
        · go_wp2_with fail
          go_meet
          case rel => exact ⟨256, rfl, ⟨by decide⟩, rfl⟩
      case rest =>
        obtain ⟨an, rfl, HAN, hwc⟩ := hcut
        obtain rfl : wc = w2 := hwc
        clear k0
        go_wp2_with fail
        go_loopg [8] pl (fun gk v8 wr => ∃ (k : Nat) (bs2 : List Int), Aside0 (k + gk = pl) ∧ v8 = .int .i64 (k : Int) ∧ Aside0 (IW w wr g cs bs2) ∧ Aside0 (Kd.R (Kd.int .u8) 5 wr B0 (fun _ => True) (.slice A2 pl c2) P.1))
        case atStart => exact ⟨0, bs, ⟨by omega⟩, rfl, HI2, HR2⟩
        case round =>
          clear HI2 HR2
          obtain ⟨k, bs2, HK, rfl, HI, HR⟩ := hrel
          have kt : wr.cell? ⟨w.heap.size, 15, none⟩ = some (.bool t1) := by have := cell_blk (k := 15) HI.out.box; rw [HCS.out] at this; exact this
          by_cases hk : k < pl
          · have hkk : (k : Int) < (pl : Int) := by omega
            by_cases htt : t1 = true
            · rw [htt] at kt
              by_cases hpe : pe = 0
              · have hpb : (pe == 0) = true := by simp [hpe]
                obtain ⟨ad, hadA, hcx⟩ := Kd.at_int (Kd.R_reads' HR.out).2.2 (k : Int) (by omega) (by rw [← HPL.out.1]; omega)
                cases hadA
                rw [Int.toNat_natCast] at hcx
                obtain ⟨x, hx⟩ : ∃ x, x = rd P.1 (k : Int) := ⟨_, rfl⟩
                rw [← hx] at hcx
                have HXB := Aside0.mk (show 0 ≤ x ∧ x ≤ 255 by rw [hx]; exact rd_byte HPB.out k)
                have hj : an + k < 4096 := by have := HAN.out; have := HPL.out.2; omega
                obtain ⟨j1, j2, _⟩ := HI.out.at_ (an + k) hj
                have h64 := HPL.out.2
                have h256 := HAN.out
                clear hx
                go_wp2_with fail
                go_roundg (pl - (k + 1))
                case measure => have := HK.out; omega
                case rel => exact ⟨k + 1, bs2.set (an + k) x, ⟨by have := HK.out; omega⟩, by go_num, ⟨HI.out.set (an + k) x HXB.out⟩, ⟨R_far HR.out HGL.out⟩⟩
              · have hpb : (pe == 0) = false := by simpa using hpe
                go_wp2_with fail
                clear kt
                have hw : wrap64 (n1 : Int) = (n1 : Int) := by have := HA1.out; unfold wrap64; omega
                have hj : an + n1 < 4096 := by have := HAN.out; have := HA1.out; omega
                obtain ⟨x, hx⟩ : ∃ x, x = bs2.getD (an + n1) 0 := ⟨_, rfl⟩
                obtain ⟨y, hy⟩ : ∃ y, y = Go.bits .xor .u8 x u1 := ⟨_, rfl⟩
                have HY := Aside0.mk (show 0 ≤ y ∧ y ≤ 255 by rw [hy]; exact xor8_byte _ _)
                have hxy := hy.symm
                have HAT := Aside0.mk (HI.out.at_ (an + n1) hj)
                rw [← hx] at HAT
                have m0 : ∀ m : Go.Reg.In (fun x => x = wr.drew), m.w.cell? ⟨g, an + n1, none⟩ = some (.int .u8 x) := fun m => by rw [m.h]; exact HAT.out.1
                have m1 : ∀ m : Go.Reg.In (fun x => x = wr.drew), m.w.cell? ⟨w.heap.size, 17, none⟩ = some (.int .u8 n1) := fun m => by
                  rw [m.h]
                  have := cell_blk (k := 17) (w := wr.drew) HI.out.box
                  rw [HCS.out] at this
                  exact this
                have m2 : ∀ m : Go.Reg.In (fun x => x = wr.drew), m.w.cell? ⟨w.heap.size, 19, none⟩ = some (.int .u8 u1) := fun m => by
                  rw [m.h]
                  have := cell_blk (k := 19) (w := wr.drew) HI.out.box
                  rw [HCS.out] at this
                  exact this
                have h255 := HA1.out
                have h256 := HAN.out
                clear hx hy
                go_upto_region 11 with (fail)
                refine Go.Reg.region (fun x => x = wr.drew) [.s, .s, .s, .s, .s, .s, .s, .s, .s, .s, .s, .s, .s, .s, .s, .s, .s, .s, .s, .s, .s, .s, .s, .s, .x] (by kernel_rfl) (by kernel_rfl) rfl (fun ne => ?_)
                refine Go.Reg.lex_q 24 _ _ _ _ (by rfl) ?_; simp only [List.take_succ_cons, List.take_zero, List.drop_succ_cons, List.drop_zero]; (repeat (go_big_quiet_step (rfl)))
                refine wpQuiet_nil ?_
                refine Go.Reg.step_x (by rfl) (fun K hK => ?_)
                have hs0 : wr.cell? ⟨g, an + n1, none⟩ = some (.int .u8 x) := HAT.out.1
                have hs1 : wr.frozen? ⟨g, an + n1, none⟩ = false := HAT.out.2.1
                clear m0 m1 m2
                go_wp2_with fail
                refine hK.out _ _ ?_
                clear hK K
                refine Go.Reg.lex_nil ?_
                clear hs0 hs1 hxy h255 h256 hw
                obtain ⟨w5, hw5⟩ : ∃ z, z = (wr.setCell ⟨g, an + n1, none⟩ (.int .u8 y)).drew := ⟨_, rfl⟩
                have HI5 := Aside0.mk (show IW w w5 g cs (bs2.set (an + n1) y) by rw [hw5]; exact (HI.out.set (an + n1) y HY.out).step (below_drew1 (Below.refl _ _)))
                rw [← hw5]
                clear hw5 HI
                go_wp2_with fail
                go_roundg (2 - 2)
                case measure => have := HG.out; omega
                case rel => exact ⟨2, 2, bs2.set (an + n1) y, ⟨by have := HG.out; omega⟩, ⟨rfl⟩, rfl, HI5⟩
            · have htf : t1 = false := by simpa using htt
              rw [htf] at kt
              go_wp2_with fail
              clear kt
              have hw : wrap64 (n1 : Int) = (n1 : Int) := by have := HA1.out; unfold wrap64; omega
              have hj : an + n1 < 4096 := by have := HAN.out; have := HA1.out; omega
              obtain ⟨x, hx⟩ : ∃ x, x = bs2.getD (an + n1) 0 := ⟨_, rfl⟩
              obtain ⟨y, hy⟩ : ∃ y, y = Go.bits .xor .u8 x u1 := ⟨_, rfl⟩
              have HY := Aside0.mk (show 0 ≤ y ∧ y ≤ 255 by rw [hy]; exact xor8_byte _ _)
              have hxy := hy.symm
              have HAT := Aside0.mk (HI.out.at_ (an + n1) hj)
              rw [← hx] at HAT
              have m0 : ∀ m : Go.Reg.In (fun x => x = wr.drew), m.w.cell? ⟨g, an + n1, none⟩ = some (.int .u8 x) := fun m => by rw [m.h]; exact HAT.out.1
              have m1 : ∀ m : Go.Reg.In (fun x => x = wr.drew), m.w.cell? ⟨w.heap.size, 17, none⟩ = some (.int .u8 n1) := fun m => by
                rw [m.h]
                have := cell_blk (k := 17) (w := wr.drew) HI.out.box
                rw [HCS.out] at this
                exact this
              have m2 : ∀ m : Go.Reg.In (fun x => x = wr.drew), m.w.cell? ⟨w.heap.size, 19, none⟩ = some (.int .u8 u1) := fun m => by
                rw [m.h]
                have := cell_blk (k := 19) (w := wr.drew) HI.out.box
                rw [HCS.out] at this
                exact this
              have h255 := HA1.out
              have h256 := HAN.out
              clear hx hy
              go_upto_region 11 with (fail)
              refine Go.Reg.region (fun x => x = wr.drew) [.s, .s, .s, .s, .s, .s, .s, .s, .s, .s, .s, .s, .s, .s, .s, .s, .s, .s, .s, .s, .s, .s, .s, .s, .x] (by kernel_rfl) (by kernel_rfl) rfl (fun ne => ?_)
              refine Go.Reg.lex_q 24 _ _ _ _ (by rfl) ?_; simp only [List.take_succ_cons, List.take_zero, List.drop_succ_cons, List.drop_zero]; (repeat (go_big_quiet_step (rfl)))
              refine wpQuiet_nil ?_
              refine Go.Reg.step_x (by rfl) (fun K hK => ?_)
              have hs0 : wr.cell? ⟨g, an + n1, none⟩ = some (.int .u8 x) := HAT.out.1
              have hs1 : wr.frozen? ⟨g, an + n1, none⟩ = false := HAT.out.2.1
              clear m0 m1 m2
              go_wp2_with fail
              refine hK.out _ _ ?_
              clear hK K
              refine Go.Reg.lex_nil ?_
              clear hs0 hs1 hxy h255 h256 hw
              obtain ⟨w5, hw5⟩ : ∃ z, z = (wr.setCell ⟨g, an + n1, none⟩ (.int .u8 y)).drew := ⟨_, rfl⟩
              have HI5 := Aside0.mk (show IW w w5 g cs (bs2.set (an + n1) y) by rw [hw5]; exact (HI.out.set (an + n1) y HY.out).step (below_drew1 (Below.refl _ _)))
              rw [← hw5]
              clear hw5 HI
              go_wp2_with fail
              go_roundg (2 - 2)
              case measure => have := HG.out; omega
              case rel => exact ⟨2, 2, bs2.set (an + n1) y, ⟨by have := HG.out; omega⟩, ⟨rfl⟩, rfl, HI5⟩
          · have hkk : ¬ (k : Int) < (pl : Int) := by omega
            go_wp2_with fail
            clear kt
            have hw : wrap64 (n1 : Int) = (n1 : Int) := by have := HA1.out; unfold wrap64; omega
            have hj : an + n1 < 4096 := by have := HAN.out; have := HA1.out; omega
            obtain ⟨x, hx⟩ : ∃ x, x = bs2.getD (an + n1) 0 := ⟨_, rfl⟩
            obtain ⟨y, hy⟩ : ∃ y, y = Go.bits .xor .u8 x u1 := ⟨_, rfl⟩
            have HY := Aside0.mk (show 0 ≤ y ∧ y ≤ 255 by rw [hy]; exact xor8_byte _ _)
            have hxy := hy.symm
            have HAT := Aside0.mk (HI.out.at_ (an + n1) hj)
            rw [← hx] at HAT
            have m0 : ∀ m : Go.Reg.In (fun x => x = wr.drew), m.w.cell? ⟨g, an + n1, none⟩ = some (.int .u8 x) := fun m => by rw [m.h]; exact HAT.out.1
            have m1 : ∀ m : Go.Reg.In (fun x => x = wr.drew), m.w.cell? ⟨w.heap.size, 17, none⟩ = some (.int .u8 n1) := fun m => by
              rw [m.h]
              have := cell_blk (k := 17) (w := wr.drew) HI.out.box
              rw [HCS.out] at this
              exact this
            have m2 : ∀ m : Go.Reg.In (fun x => x = wr.drew), m.w.cell? ⟨w.heap.size, 19, none⟩ = some (.int .u8 u1) := fun m => by
              rw [m.h]
              have := cell_blk (k := 19) (w := wr.drew) HI.out.box
              rw [HCS.out] at this
              exact this
            have h255 := HA1.out
            have h256 := HAN.out
            clear hx hy
            go_upto_region 11 with (fail)
            refine Go.Reg.region (fun x => x = wr.drew) [.s, .s, .s, .s, .s, .s, .s, .s, .s, .s, .s, .s, .s, .s, .s, .s, .s, .s, .s, .s, .s, .s, .s, .s, .x] (by kernel_rfl) (by kernel_rfl) rfl (fun ne => ?_)
            refine Go.Reg.lex_q 24 _ _ _ _ (by rfl) ?_; simp only [List.take_succ_cons, List.take_zero, List.drop_succ_cons, List.drop_zero]; (repeat (go_big_quiet_step (rfl)))
            refine wpQuiet_nil ?_
            refine Go.Reg.step_x (by rfl) (fun K hK => ?_)
            have hs0 : wr.cell? ⟨g, an + n1, none⟩ = some (.int .u8 x) := HAT.out.1
            have hs1 : wr.frozen? ⟨g, an + n1, none⟩ = false := HAT.out.2.1
            clear m0 m1 m2
            go_wp2_with fail
            refine hK.out _ _ ?_
            clear hK K
            refine Go.Reg.lex_nil ?_
            clear hs0 hs1 hxy h255 h256 hw
            obtain ⟨w5, hw5⟩ : ∃ z, z = (wr.setCell ⟨g, an + n1, none⟩ (.int .u8 y)).drew := ⟨_, rfl⟩
            have HI5 := Aside0.mk (show IW w w5 g cs (bs2.set (an + n1) y) by rw [hw5]; exact (HI.out.set (an + n1) y HY.out).step (below_drew1 (Below.refl _ _)))
            rw [← hw5]
            clear hw5 HI
            go_wp2_with fail
            go_roundg (2 - 2)
            case measure => have := HG.out; omega
            case rel => exact ⟨2, 2, bs2.set (an + n1) y, ⟨by have := HG.out; omega⟩, ⟨rfl⟩, rfl, HI5⟩
    · obtain rfl : I = 2 := HII.out
      go_wp2_with fail
      go_ret
      exact ⟨g, bs, rfl, HI.out.len, HI.out.byte, HI.out.row, HI.out.bel⟩
end Supr
end Go.Proofs.Ytopfjmeejpamjaa
end
