/- The disk in memory: its simple functions. -/
import Derived.Test.YtooemgcijbdilaaProg
import Derived.Test.YtooemgcijbdilaaWWords
import Derived.Test.YtooemgcijbdilaaWLast
import Derived.Test.YtooemgcijbdilaaWMore
import Derived.Test.YtooemgcijbdilaaReg2
import Derived.Test.YtooemgcijbdilaaDp
import Derived.Test.YtooemgcijbdilaaPDiskDoesx1
import Derived.Laws.LoneSync
import Derived.Below
import Derived.Lib.Hide
import Derived.OwnWalk
import Derived.WalkKit
import Derived.KernelRfl
import Derived.RowKit3
import Derived.Deep.LoopGhost
import Derived.Deep.QuietTactic
import Derived.BigQuiet
import Derived.WideLaws
import Derived.Outline
import Derived.Deep.DeepCutAuto
import Derived.WalkSpells
import Derived.RegionTactic
import Derived.BigRegion
import Derived.WalkLawsBesides
namespace Go.Proofs.Ytooemgcijbdilaa
set_option linter.unusedVariables false
set_option linter.unusedSimpArgs false
open Go.RowKit Go.Proofs.YtooemgcijbdilaaW.PrintWords Go.Proofs.YtooemgcijbdilaaW.PrintLast Go.Proofs.YtooemgcijbdilaaW.PrintMore
namespace Disk
open Go.Disk PDiskDoes
theorem cell_blk {w : World} {b k t : Nat} {cs : Array Value} (h : w.heap[b]? = some (.cells cs t (0, 0))) : w.cell? ⟨b, k, none⟩ = cs[k]? := blk_cell h k
theorem frozen_blk {w : World} {b k t : Nat} {cs : Array Value} (h : w.heap[b]? = some (.cells cs t (0, 0))) : w.frozen? ⟨b, k, none⟩ = false := blk_frozen h k
/-- A write that waits. -/
abbrev kW : Kd (Int × List Int) := Kd.pair (Kd.int .i64) (Kd.slice 5 (Kd.int .u8))
def u8s (l : List Int) : List Value := l.map (Value.int .u8)
/-- A disk of the program's in memory. -/
structure PDx (w : World) (base db sb : Nat) (D : Dk) (vw : Value) (cs : Nat) (sp : List Value) : Prop where
  ok : Ok D
  dbase : base ≤ db
  sbase : base ≤ sb
  cells : w.heap[db]? = some (.cells #[.slice (some ⟨sb, 0, none⟩) D.safe.flatten.length cs, vw, .int .i64 D.left, .bool D.off, .int .i64 D.reads, .int .i64 D.writes, .int .i64 D.flushes] 75 (0, 0))
  waits : Kd.R kW 77 w base (fun k => k ≠ sb) vw D.waits
  safe : w.heap[sb]? = some (.cells (u8s D.safe.flatten ++ sp).toArray 5 (0, 0))
  room : D.safe.flatten.length + sp.length = cs
def PD (w : World) (base db sb : Nat) (D : Dk) : Prop := ∃ vw cs sp, PDx w base db sb D vw cs sp
theorem PDx.ne {w : World} {base db sb cs : Nat} {D : Dk} {vw : Value} {sp : List Value} (h : PDx w base db sb D vw cs sp) : db ≠ sb := by
  rintro rfl
  have := h.cells.symm.trans h.safe
  simp at this
theorem PDx.below {w w' : World} {base db sb cs : Nat} {D : Dk} {vw : Value} {sp : List Value} (h : PDx w base db sb D vw cs sp) (b : Below w.heap.size w w') : PDx w' base db sb D vw cs sp :=
  ⟨h.ok, h.dbase, h.sbase, (b.block db (blk_lt h.cells)).trans h.cells, Kd.R_below h.waits b, (b.block sb (blk_lt h.safe)).trans h.safe, h.room⟩
theorem PD.below {w w' : World} {base db sb : Nat} {D : Dk} (h : PD w base db sb D) (b : Below w.heap.size w w') : PD w' base db sb D := by
  obtain ⟨vw, cs, sp, h⟩ := h
  exact ⟨vw, cs, sp, h.below b⟩
theorem PD.ok {w : World} {base db sb : Nat} {D : Dk} (h : PD w base db sb D) : Ok D := by
  obtain ⟨vw, cs, sp, h⟩ := h
  exact h.ok
/-- A cell of the struct's own turned: the rest lies as it lay. -/
theorem PDx.put {w : World} {base db sb cs : Nat} {D D' : Dk} {vw : Value} {sp : List Value} (h : PDx w base db sb D vw cs sp) (k : Nat) (v : Value) (hok : Ok D') (hs : D'.safe = D.safe) (hw : D'.waits = D.waits)
    (hc : (#[.slice (some ⟨sb, 0, none⟩) D.safe.flatten.length cs, vw, .int .i64 D.left, .bool D.off, .int .i64 D.reads, .int .i64 D.writes, .int .i64 D.flushes] : Array Value).setIfInBounds k v = #[.slice (some ⟨sb, 0, none⟩) D.safe.flatten.length cs, vw, .int .i64 D'.left, .bool D'.off, .int .i64 D'.reads, .int .i64 D'.writes, .int .i64 D'.flushes]) :
    PDx (w.setCell ⟨db, k, none⟩ v) base db sb D' vw cs sp := by
  refine ⟨hok, h.dbase, h.sbase, ?_, by rw [hw]; exact Kd.R_set h.waits h.cells (by decide) k v, by rw [hs, Below.heap_setCell _ _ _ _ (Ne.symm h.ne)]; exact h.safe, by rw [hs]; exact h.room⟩
  rw [blk_set h.cells k v, hc, hs]
/-- Only these blocks of the old ones were changed, and ones of these types. -/
structure Fr (bs : Nat → Prop) (ts : Nat → Nat → Prop) (w w' : World) : Prop where
  os : w'.os = w.os
  tape : w'.tape = w.tape
  output : w'.output = w.output
  size : w.heap.size ≤ w'.heap.size
  block : ∀ k, k < w.heap.size → ¬ bs k → (∀ cells t fz, w.heap[k]? = some (.cells cells t fz) → ¬ ts k t) → w'.heap[k]? = w.heap[k]?
theorem Fr.refl (bs : Nat → Prop) (ts : Nat → Nat → Prop) (w : World) : Fr bs ts w w := ⟨rfl, rfl, rfl, Nat.le_refl _, fun _ _ _ _ => rfl⟩
theorem Fr.trans {bs : Nat → Prop} {ts : Nat → Nat → Prop} {x y z : World} (h : Fr bs ts x y) (k : Fr bs ts y z) : Fr bs ts x z :=
  ⟨k.os.trans h.os, k.tape.trans h.tape, k.output.trans h.output, Nat.le_trans h.size k.size, fun i hi hne ht => by
    have e := h.block i hi hne ht
    exact (k.block i (Nat.lt_of_lt_of_le hi h.size) hne (fun c t fz hc => ht c t fz (e ▸ hc))).trans e⟩
theorem Fr.of_below {bs : Nat → Prop} {ts : Nat → Nat → Prop} {x y : World} (h : Below x.heap.size x y) : Fr bs ts x y := ⟨h.os, h.tape, h.output, h.size, fun k hk _ _ => h.block k hk⟩
theorem Fr.mono {bs bs' : Nat → Prop} {ts ts' : Nat → Nat → Prop} {x y : World} (h : Fr bs ts x y) (hb : ∀ k, bs k → bs' k) (ht : ∀ k t, ts k t → ts' k t) : Fr bs' ts' x y := ⟨h.os, h.tape, h.output, h.size, fun k hk hne h2 => h.block k hk (fun hS => hne (hb k hS)) (fun c t fz hc hS => h2 c t fz hc (ht k t hS))⟩
theorem Fr.set {bs : Nat → Prop} {ts : Nat → Nat → Prop} (w : World) (b k : Nat) (v : Value) (hb : bs b) : Fr bs ts w (w.setCell ⟨b, k, none⟩ v) :=
  ⟨rfl, rfl, rfl, by simp [World.setCell], fun i _ hi _ => Below.heap_setCell _ _ _ _ (fun e => hi (e ▸ hb))⟩
/-- What the program's disk changes. -/
abbrev FP (base db sb : Nat) (w w' : World) : Prop := Fr (fun k => k = db ∨ k = sb) (fun k t => base ≤ k ∧ t = 77) w w'
/-- What the document's disk changes. -/
abbrev FX (base xb : Nat) (w w' : World) : Prop := Fr (fun k => k = xb) (fun k t => base ≤ k ∧ (t = 30 ∨ t = 93)) w w'
theorem flatLen {D : Dk} (h : Ok D) : D.safe.flatten.length = D.safe.length * 256 := flat_len h.len
set_option maxRecDepth 100000 in
theorem blocks_any {w : World} {base db sb : Nat} {D : Dk} (h : PD w base db sb D) :
    Calls Try.prog 28 #[.pointer (some ⟨db, 0, none⟩)] w fun e w' => e = .returned (.int .i64 (D.safe.length : Int)) ∧ w' = w := by
  obtain ⟨vw, cs, sp, h⟩ := h
  have c0 : w.cell? ⟨db, 0, none⟩ = some (.slice (some ⟨sb, 0, none⟩) D.safe.flatten.length cs) := cell_blk h.cells
  have HL := Aside0.mk (flatLen h.ok)
  have hf := h.ok.few
  clear h
  obtain ⟨q, hq⟩ : ∃ q, q = D.safe.flatten.length := ⟨_, rfl⟩
  rw [← hq] at c0 HL
  clear hq
  go_enter Try.func28, Try.ntmps28
  have hq2 := HL.out
  clear HL
  subst hq2
  go_wp2_with fail
  go_ret
  exact ⟨rfl, rfl⟩
set_option maxRecDepth 100000 in
theorem ready_any {w : World} {base db sb : Nat} {D : Dk} (n : Int) (h : PD w base db sb D) :
    Calls Try.prog 31 #[.pointer (some ⟨db, 0, none⟩), .int .i64 n] w fun e w' => e = .returned (.int .i64 (ready D n)) ∧ w' = w := by
  have HP := Aside0.mk h
  obtain ⟨vw, cs, sp, h⟩ := h
  have c3 : w.cell? ⟨db, 3, none⟩ = some (.bool D.off) := cell_blk h.cells
  clear h
  unfold ready
  cases hoff : D.off with
  | true =>
    rw [hoff] at c3
    go_enter Try.func31, Try.ntmps31
    go_wp2_with fail
    go_ret
    exact ⟨rfl, rfl⟩
  | false =>
    rw [hoff] at c3
    by_cases h0 : n < 0
    · rw [if_neg (by simp), if_pos (.inl h0)]
      go_enter Try.func31, Try.ntmps31
      go_wp2_with fail
      go_ret
      exact ⟨rfl, rfl⟩
    · by_cases h1 : (D.safe.length : Int) ≤ n
      · rw [if_neg (by simp), if_pos (.inr h1)]
        go_enter Try.func31, Try.ntmps31
        go_wp2_with fail
        refine (blocks_any HP.out).mono ?_
        rintro e w1 ⟨rfl, rfl⟩
        go_wp2_with fail
        go_ret
        exact ⟨rfl, rfl⟩
      · rw [if_neg (by simp), if_neg (by omega)]
        go_enter Try.func31, Try.ntmps31
        go_wp2_with fail
        refine (blocks_any HP.out).mono ?_
        rintro e w1 ⟨rfl, rfl⟩
        go_wp2_with fail
        go_ret
        exact ⟨rfl, rfl⟩
set_option maxRecDepth 100000 in
theorem off_any {w : World} {base db sb : Nat} {D : Dk} (h : PD w base db sb D) :
    Calls Try.prog 18 #[.pointer (some ⟨db, 0, none⟩)] w fun e w' => e = .returned (.bool D.off) ∧ w' = w := by
  obtain ⟨vw, cs, sp, h⟩ := h
  have c3 : w.cell? ⟨db, 3, none⟩ = some (.bool D.off) := cell_blk h.cells
  clear h
  go_enter Try.func18, Try.ntmps18
  go_wp2_with fail
  go_ret
  exact ⟨rfl, rfl⟩
set_option maxRecDepth 100000 in
theorem waits_any {w : World} {base db sb : Nat} {D : Dk} (h : PD w base db sb D) :
    Calls Try.prog 19 #[.pointer (some ⟨db, 0, none⟩)] w fun e w' => e = .returned (.int .i64 (D.waits.length : Int)) ∧ w' = w := by
  obtain ⟨vw, cs, sp, h⟩ := h
  obtain ⟨A, c, rfl⟩ := Kd.R_slice h.waits
  have c1 : w.cell? ⟨db, 1, none⟩ = some (.slice A D.waits.length c) := cell_blk h.cells
  clear h
  go_enter Try.func19, Try.ntmps19
  go_wp2_with fail
  go_ret
  exact ⟨rfl, rfl⟩
def stopD (D : Dk) (n : Int) : Dk := { D with left := n }
set_option maxRecDepth 100000 in
theorem stop_any {w : World} {base db sb : Nat} {D : Dk} (n : Int) (h : PD w base db sb D) (hn : n ≤ 9223372036854775807) :
    Calls Try.prog 27 #[.pointer (some ⟨db, 0, none⟩), .int .i64 n] w fun e w' => (e = .returned (.int .i64 (if n < 0 then 1 else 0)) ∧ PD w' base db sb (if n < 0 then D else stopD D n) ∧ FP base db sb w w') := by
  have HP := Aside0.mk h
  obtain ⟨vw, cs, sp, h⟩ := h
  have c2 : w.cell? ⟨db, 2, none⟩ = some (.int .i64 D.left) := cell_blk h.cells
  have f2 : w.frozen? ⟨db, 2, none⟩ = false := frozen_blk h.cells
  have HX := Aside0.mk h
  clear h
  by_cases h0 : n < 0
  · rw [if_pos h0, if_pos h0]
    go_enter Try.func27, Try.ntmps27
    go_wp2_with fail
    go_ret
    exact ⟨rfl, HP.out, .refl _ _ _⟩
  · rw [if_neg h0, if_neg h0]
    go_enter Try.func27, Try.ntmps27
    go_wp2_with fail
    go_ret
    have ho := HX.out.ok
    exact ⟨rfl, ⟨vw, cs, sp, HX.out.put 2 (.int .i64 n) (D' := stopD D n) ⟨ho.few, ho.len, ho.byte, ho.at_, by show -1 ≤ n ∧ n ≤ _; omega⟩ rfl rfl rfl⟩, .set _ _ _ _ (.inl rfl)⟩
/-- A deed counted: ErrOff: the power goes at it. -/
def deedD (D : Dk) : Dk := if D.left = 0 then { D with off := true } else { D with left := max (D.left - 1) (-1) }
set_option maxRecDepth 100000 in
theorem deed_any {w : World} {base db sb : Nat} {D : Dk} (h : PD w base db sb D) :
    Calls Try.prog 33 #[.pointer (some ⟨db, 0, none⟩)] w fun e w' => e = .returned (.int .i64 (if D.left = 0 then 9 else 0)) ∧ PD w' base db sb (deedD D) ∧ FP base db sb w w' := by
  obtain ⟨vw, cs, sp, h⟩ := h
  have c2 : w.cell? ⟨db, 2, none⟩ = some (.int .i64 D.left) := cell_blk h.cells
  have f2 : w.frozen? ⟨db, 2, none⟩ = false := frozen_blk h.cells
  have c3 : w.cell? ⟨db, 3, none⟩ = some (.bool D.off) := cell_blk h.cells
  have f3 : w.frozen? ⟨db, 3, none⟩ = false := frozen_blk h.cells
  have HX := Aside0.mk h
  have ho := HX.out.ok
  have hl := ho.left
  have HOK := Aside0.mk ho
  clear h ho
  unfold deedD
  obtain ⟨L, hL⟩ : ∃ L, L = D.left := ⟨_, rfl⟩
  by_cases h0 : D.left = 0
  · rw [if_pos h0, if_pos h0]
    rw [h0] at c2
    clear hL
    go_enter Try.func33, Try.ntmps33
    go_wp2_with fail
    go_ret
    have ho := HOK.out
    exact ⟨rfl, ⟨vw, cs, sp, HX.out.put 3 (.bool true) (D' := { D with off := true }) ⟨ho.few, ho.len, ho.byte, ho.at_, ho.left⟩ rfl rfl rfl⟩, .set _ _ _ _ (.inl rfl)⟩
  · rw [if_neg h0, if_neg h0]
    have ho := HOK.out
    by_cases h1 : 0 < D.left
    · have hm : max (D.left - 1) (-1) = D.left - 1 := by omega
      rw [hm]
      rw [← hL] at c2 hl h0 h1
      have HL := Aside0.mk hL
      clear hL hm ho
      go_enter Try.func33, Try.ntmps33
      go_wp2_with fail
      · go_ret
        have ho := HOK.out
        have hL := HL.out
        exact ⟨rfl, ⟨vw, cs, sp, HX.out.put 2 (.int .i64 (L - 1)) (D' := { D with left := D.left - 1 }) ⟨ho.few, ho.len, ho.byte, ho.at_, ⟨by show -1 ≤ D.left - 1; omega, by show D.left - 1 ≤ 9223372036854775807; omega⟩⟩ rfl rfl (by rw [hL]; rfl)⟩, .set _ _ _ _ (.inl rfl)⟩
      all_goals (exfalso; omega)
    · have hm : max (D.left - 1) (-1) = -1 := by omega
      have hl1 : D.left = -1 := by omega
      rw [hm]
      rw [hl1] at c2
      clear hL hm ho h0 hl
      go_enter Try.func33, Try.ntmps33
      go_wp2_with fail
      go_ret
      have ho := HOK.out
      exact ⟨rfl, ⟨vw, cs, sp, HX.out.put 2 (.int .i64 (-1)) (D' := { D with left := -1 }) ⟨ho.few, ho.len, ho.byte, ho.at_, ⟨by show (-1 : Int) ≤ -1; omega, by show (-1 : Int) ≤ 9223372036854775807; omega⟩⟩ rfl rfl rfl⟩, .set _ _ _ _ (.inl rfl)⟩
set_option maxRecDepth 100000 in
theorem add_at (w : World) (b k : Nat) (x y : Int) (hc : w.cell? ⟨b, k, none⟩ = some (.int .i64 x)) (hf : w.frozen? ⟨b, k, none⟩ = false) :
    Calls Try.prog 34 #[.pointer (some ⟨b, k, none⟩), .int .i64 y] w fun e w' => e = .returned (.int .i64 (wrap64 (x + y))) ∧ w' = w.setCell ⟨b, k, none⟩ (.int .i64 (wrap64 (x + y))) := by
  have hadd := run_call_add (P := Try.prog) Try.func50 (by kernel_rfl) (by kernel_rfl) (by kernel_rfl) .i64 (by kernel_rfl) (y := y) (s := wrap64 (x + y)) hc hf (by simp [go_sem, IntKind.wrap_i64, wrap64])
  go_enter Try.func34, Try.ntmps34
  go_wp2_with fail
  go_ret
  exact ⟨rfl, rfl⟩
set_option maxRecDepth 100000 in
theorem load_at (w : World) (b k : Nat) (x : Int) (hc : w.cell? ⟨b, k, none⟩ = some (.int .i64 x)) :
    Calls Try.prog 47 #[.pointer (some ⟨b, k, none⟩)] w fun e w' => e = .returned (.int .i64 x) ∧ w' = w := by
  have hl := run_call_load (P := Try.prog) Try.func56 (by kernel_rfl) (by kernel_rfl) (by kernel_rfl) .i64 (by kernel_rfl) hc
  go_enter Try.func47, Try.ntmps47
  go_wp2_with fail
  go_ret
  exact ⟨rfl, rfl⟩
theorem zeros_made (n : Nat) : madeCells (Value.int .u8 0).cells (n * 256 * 1) = (u8s (zeros n).flatten).toArray := by
  have hl := flat_len (zeros_len n)
  rw [zeros_size] at hl
  have hu : (u8s (zeros n).flatten).length = n * 256 := by unfold u8s; rw [List.length_map, hl]
  apply Array.ext
  · rw [size_madeCells, List.size_toArray, hu, Nat.mul_one]
  · intro i h1 h2
    have h3 : i < (zeros n).flatten.length := by rw [List.size_toArray, hu] at h2; omega
    have e : (u8s (zeros n).flatten).toArray[i] = Value.int .u8 ((zeros n).flatten[i]) := by simp only [u8s, List.getElem_toArray, List.getElem_map]
    rw [e, zeros_mem (List.getElem_mem h3)]
    simp [madeCells, Value.cells, Nat.mod_one]
theorem zeros_row (n : Nat) (hn : n ≤ 1024) (W : World) : (Instr.makeSlice 30 (.int .i64 ((n : Int) * 256)) (.int .i64 ((n : Int) * 256))).run Try.prog W = .ok (.slice (some ⟨W.heap.size, 0, none⟩) (n * 256) (n * 256)) (W.alloc (.cells (u8s (zeros n).flatten).toArray 5)) := by
  have hinfo : (Try.prog.info? 5).map (fun i => (i.zero, i.size, i.bytes)) = some (some (.int .u8 0), 1, 1) := by kernel_rfl
  cases hi : Try.prog.info? 5 with
  | none => rw [hi] at hinfo; simp at hinfo
  | some i =>
    rw [hi] at hinfo
    simp only [Option.map_some, Option.some.injEq, Prod.mk.injEq] at hinfo
    obtain ⟨hz, hs, hb⟩ := hinfo
    have hr := run_make (P := Try.prog) W 30 5 i (.int .u8 0) Try.underlying30 hi hz .i64 .i64 ((n * 256 : Nat) : Int) ((n * 256 : Nat) : Int) (by omega) (Int.le_refl _) (by rw [hb]; omega) (by omega)
    rw [hs] at hr
    simp only [Int.toNat_natCast] at hr
    rw [zeros_made] at hr
    have e : ((n * 256 : Nat) : Int) = (n : Int) * 256 := by omega
    rw [e] at hr
    exact hr
set_option maxRecDepth 100000 in
theorem blank_yes (n : Nat) (w : World) (h : 16 ≤ n ∧ n ≤ 1024) :
    Calls Try.prog 8 #[.int .i64 n] w fun e w' => ∃ db sb, e = .returned (.tuple #[.pointer (some ⟨db, 0, none⟩), .int .i64 0]) ∧ PD w' w.heap.size db sb (blankD n) ∧ Below w.heap.size w w' := by
  have hmk := zeros_row n h.2
  have HOK := Aside0.mk (blank_ok n h)
  have hfl := flat_len (zeros_len n)
  rw [zeros_size] at hfl
  have HFL := Aside0.mk hfl
  obtain ⟨h1, h2⟩ := h
  clear hfl
  go_enter Try.func8, Try.ntmps8
  go_wp2_with fail
  refine (disk_blocks.calls n true w (by unfold disk_blocks.f; rw [if_pos (by omega)]; simp; omega)).mono ?_
  rintro e w1 ⟨rfl, ⟨k, rfl⟩⟩
  obtain ⟨w1, hw1⟩ : ∃ w1, w1 = w.drewN k := ⟨_, rfl⟩
  rw [← hw1]
  have HB := Aside0.mk (show Below w.heap.size w w1 by rw [hw1]; exact pw_below_drewN (Below.refl _ _) k)
  clear hw1
  go_wp2_with fail
  obtain ⟨w2, hw2⟩ : ∃ w2, w2 = w1.alloc (.cells (u8s (zeros n).flatten).toArray 5) := ⟨_, rfl⟩
  have hb1 := (Below.refl w1.heap.size w1).alloc (Nat.le_refl _) (.cells (u8s (zeros n).flatten).toArray 5)
  have hh1 := heap_alloc_new w1 (.cells (u8s (zeros n).flatten).toArray 5)
  have hsz : w1.heap.size + 1 = w2.heap.size := by rw [hw2]; simp
  rw [← hw2] at hb1 hh1
  rw [← hw2, hsz]
  have hb2 := (Below.refl w2.heap.size w2).alloc (Nat.le_refl _) (.cells #[.slice (some ⟨w1.heap.size, 0, none⟩) (n * 256) (n * 256), .slice none 0 0, .int .i64 (-1), .bool false, .int .i64 0, .int .i64 0, .int .i64 0] 75)
  have hh2 := heap_alloc_new w2 (.cells #[.slice (some ⟨w1.heap.size, 0, none⟩) (n * 256) (n * 256), .slice none 0 0, .int .i64 (-1), .bool false, .int .i64 0, .int .i64 0, .int .i64 0] 75)
  go_ret2
  have hfl := HFL.out
  refine ⟨w2.heap.size, w1.heap.size, rfl, ⟨.slice none 0 0, n * 256, [], ⟨HOK.out, by have := HB.out.size; omega, HB.out.size, ?_, Kd.R_nil _ _ _ _ _, ?_, ?_⟩⟩, (HB.out.trans (hb1.mono HB.out.size)).trans (hb2.mono (by have := HB.out.size; omega))⟩
  · show _ = some (Obj.cells #[.slice (some ⟨w1.heap.size, 0, none⟩) (zeros n).flatten.length (n * 256), .slice none 0 0, .int .i64 (-1), .bool false, .int .i64 0, .int .i64 0, .int .i64 0] 75 (0, 0))
    rw [hfl]
    exact hh2
  · rw [List.append_nil]
    exact (hb2.block _ (by omega)).trans hh1
  · show (zeros n).flatten.length + 0 = _
    omega
set_option maxRecDepth 100000 in
theorem blank_no (n : Int) (w : World) (h : n < 16 ∨ 1024 < n) :
    Calls Try.prog 8 #[.int .i64 n] w fun e w' => e = .returned (.tuple #[.pointer none, .int .i64 1]) ∧ Below w.heap.size w w' := by
  go_enter Try.func8, Try.ntmps8
  go_wp2_with fail
  refine (disk_blocks.calls n false w (by unfold disk_blocks.f; by_cases h0 : n ≥ 16; rw [if_pos h0]; simp; omega; rw [if_neg h0])).mono ?_
  rintro e w1 ⟨rfl, ⟨k, rfl⟩⟩
  go_wp2_with fail
  go_ret2
  exact ⟨rfl, pw_below_drewN (Below.refl _ _) k⟩
end Disk
end Go.Proofs.Ytooemgcijbdilaa
