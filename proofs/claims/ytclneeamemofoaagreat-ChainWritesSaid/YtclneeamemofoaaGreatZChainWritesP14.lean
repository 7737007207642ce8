/- Part 15 of the proof of ChainWrites: lemmas alone. -/
import Derived.Test.YtclneeamemofoaaGreatProg
import Derived.Test.YtclneeamemofoaaGreatZChainWritesP4
import Derived.Test.YtclneeamemofoaaGreatZChainWritesP1
import Derived.Test.YtclneeamemofoaaGreatZChainWritesP5
import Derived.Test.YtclneeamemofoaaGreatZChainWritesP2
import Derived.Test.YtclneeamemofoaaGreatZChainWritesP9
import Derived.Laws.LoneSync
import Derived.Below
import Derived.Lib.Hide
import Derived.OwnWalk
import Derived.WalkKit
import Derived.KernelRfl
import Derived.RowKit3
import Derived.Deep.LoopGhost
import Derived.Deep.QuietTactic
import Derived.BigQuiet
import Derived.WideLaws
import Derived.Outline
import Derived.Deep.DeepCutAuto
import Derived.WalkSpells
import Derived.RegionTactic
import Derived.BigRegion
import Derived.WalkLawsBesides
import Derived.Great.BuildSlice
import Derived.Deep.Slices
section
namespace Go.Disk
set_option linter.unusedVariables false
structure Dk where
  safe : List (List Int)
  waits : List (Int × List Int)
  left : Int
  off : Bool
  reads : Int
  writes : Int
  flushes : Int
structure Ok (D : Dk) : Prop where
  few : 16 ≤ D.safe.length ∧ D.safe.length ≤ 1024
  len : ∀ b ∈ D.safe, b.length = 256
  byte : ∀ b ∈ D.safe, ∀ x ∈ b, 0 ≤ x ∧ x ≤ 255
  at_ : ∀ p ∈ D.waits, 0 ≤ p.1 ∧ p.1 < D.safe.length ∧ p.2.length = 256 ∧ ∀ x ∈ p.2, 0 ≤ x ∧ x ≤ 255
  left : -1 ≤ D.left ∧ D.left ≤ 9223372036854775807
def rep (n : Nat) (x : Int) : List Int := List.replicate n x
theorem rep_len (n : Nat) (x : Int) : (rep n x).length = n := List.length_replicate
theorem rep_mem {n : Nat} {x y : Int} (h : y ∈ rep n x) : y = x := (List.mem_replicate.1 h).2
def zblock : List Int := rep 256 0
theorem zblock_len : zblock.length = 256 := rep_len 256 0
theorem zblock_mem {x : Int} (h : x ∈ zblock) : x = 0 := rep_mem h
def zeros (n : Nat) : List (List Int) := List.replicate n zblock
def blankD (n : Nat) : Dk := ⟨zeros n, [], -1, false, 0, 0, 0⟩
theorem zeros_len (n : Nat) : ∀ b ∈ zeros n, b.length = 256 := fun b hb => by
  rw [(List.mem_replicate.1 hb).2]
  exact zblock_len
theorem zeros_size (n : Nat) : (zeros n).length = n := List.length_replicate
theorem zeros_mem {n : Nat} {x : Int} (h : x ∈ (zeros n).flatten) : x = 0 := by
  obtain ⟨l, hl, hx⟩ := List.mem_flatten.1 h
  rw [(List.mem_replicate.1 hl).2] at hx
  exact zblock_mem hx
theorem blank_ok (n : Nat) (h : 16 ≤ n ∧ n ≤ 1024) : Ok (blankD n) := by
  refine ⟨by show 16 ≤ (zeros n).length ∧ (zeros n).length ≤ 1024; rw [zeros_size]; exact h, zeros_len n, fun b hb x hx => ?_, fun p hp => by simp [blankD] at hp, by simp [blankD]⟩
  rw [(List.mem_replicate.1 hb).2] at hx
  rw [zblock_mem hx]
  omega
def ready (D : Dk) (n : Int) : Int := if D.off then 9 else if n < 0 ∨ (D.safe.length : Int) ≤ n then 10 else 0
theorem flat_len {l : List (List Int)} (h : ∀ b ∈ l, b.length = 256) : l.flatten.length = l.length * 256 := by
  induction l with
  | nil => rfl
  | cons b l ih =>
    rw [List.flatten_cons, List.length_append, ih (fun c hc => h c (List.mem_cons_of_mem _ hc)), h b List.mem_cons_self, List.length_cons]
    omega
theorem flat_block {l : List (List Int)} (h : ∀ b ∈ l, b.length = 256) (n : Nat) (hn : n < l.length) : (l.flatten.drop (n * 256)).take 256 = l[n] := by
  induction l generalizing n with
  | nil => simp at hn
  | cons b l ih =>
    have hb := h b List.mem_cons_self
    cases n with
    | zero =>
      rw [List.flatten_cons, Nat.zero_mul, List.drop_zero, List.take_append_of_le_length (by omega), ← hb, List.take_length]
      rfl
    | succ n =>
      rw [List.flatten_cons, show (n + 1) * 256 = b.length + n * 256 by omega, List.drop_append, List.getElem_cons_succ]
      rw [show b.length + n * 256 - b.length = n * 256 by omega, List.drop_eq_nil_of_le (by omega), List.nil_append]
      exact ih (fun c hc => h c (List.mem_cons_of_mem _ hc)) n (by simpa using hn)
theorem flat_set {l : List (List Int)} (h : ∀ b ∈ l, b.length = 256) (n : Nat) (hn : n < l.length) (c : List Int) (hc : c.length = 256) : (l.set n c).flatten = l.flatten.take (n * 256) ++ c ++ l.flatten.drop (n * 256 + 256) := by
  induction l generalizing n with
  | nil => simp at hn
  | cons b l ih =>
    have hb := h b List.mem_cons_self
    cases n with
    | zero =>
      rw [List.set_cons_zero, List.flatten_cons, List.flatten_cons, Nat.zero_mul, List.take_zero, List.nil_append, Nat.zero_add, List.drop_append, List.drop_eq_nil_of_le (by omega), List.nil_append, hb]
      rfl
    | succ n =>
      rw [List.set_cons_succ, List.flatten_cons, List.flatten_cons, ih (fun c hc => h c (List.mem_cons_of_mem _ hc)) n (by simpa using hn)]
      rw [show (n + 1) * 256 = b.length + n * 256 by omega, List.take_length_add_append, show b.length + n * 256 + 256 = b.length + (n * 256 + 256) by omega, List.drop_length_add_append]
      simp
def tornTo (on : Nat → Bool) (was bs : List Int) : Nat → List Int
  | 0 => was
  | k + 1 => if on k then (tornTo on was bs k).take (64 * k) ++ ((bs.drop (64 * k)).take 64 ++ (tornTo on was bs k).drop (64 * k + 64)) else tornTo on was bs k
theorem tornTo_len (on : Nat → Bool) (was bs : List Int) (hw : was.length = 256) (hb : bs.length = 256) : ∀ k, k ≤ 4 → (tornTo on was bs k).length = 256
  | 0, _ => hw
  | k + 1, h => by
    have ih := tornTo_len on was bs hw hb k (by omega)
    unfold tornTo
    split
    · simp only [List.length_append, List.length_take, List.length_drop]
      omega
    · exact ih
def lay (l : List Int) (o : Nat) (xs : List Int) : List Int := l.take o ++ (xs ++ l.drop (o + xs.length))
theorem lay_len (l : List Int) (o : Nat) (xs : List Int) (h : o + xs.length ≤ l.length) : (lay l o xs).length = l.length := by
  simp only [lay, List.length_append, List.length_take, List.length_drop]
  omega
theorem lay_mid (A c B xs : List Int) (o : Nat) (ho : o + xs.length ≤ c.length) : lay (A ++ c ++ B) (A.length + o) xs = A ++ lay c o xs ++ B := by
  unfold lay
  rw [show A.length + o + xs.length = A.length + (o + xs.length) by omega, List.append_assoc, List.take_length_add_append, List.drop_length_add_append, List.take_append_of_le_length (by omega), List.drop_append_of_le_length (by omega)]
  simp
theorem lay_block {l : List (List Int)} (h : ∀ b ∈ l, b.length = 256) (n : Nat) (hn : n < l.length) (c xs : List Int) (hc : c.length = 256) (o : Nat) (ho : o + xs.length ≤ 256) :
    lay (l.set n c).flatten (n * 256 + o) xs = (l.set n (lay c o xs)).flatten := by
  have hl := flat_len h
  have hA : (l.flatten.take (n * 256)).length = n * 256 := by rw [List.length_take, hl]; omega
  have h1 := flat_set h n hn c hc
  have h2 := flat_set h n hn (lay c o xs) (by rw [lay_len c o xs (by omega)]; exact hc)
  have h3 := lay_mid (l.flatten.take (n * 256)) c (l.flatten.drop (n * 256 + 256)) xs o (by omega)
  rw [hA] at h3
  rw [h1, h2, h3]
end Go.Disk
namespace Go.Proofs.YtclneeamemofoaaGreat
set_option linter.unusedVariables false
set_option linter.unusedSimpArgs false
open Go.RowKit Go.Proofs.YtclneeamemofoaaGreatW.PrintWords Go.Proofs.YtclneeamemofoaaGreatW.PrintLast Go.Proofs.YtclneeamemofoaaGreatW.PrintMore
namespace Disk
open Go.Disk PDiskDoes PChain
theorem cell_blk {w : World} {b k t : Nat} {cs : Array Value} (h : w.heap[b]? = some (.cells cs t (0, 0))) : w.cell? ⟨b, k, none⟩ = cs[k]? := blk_cell h k
theorem frozen_blk {w : World} {b k t : Nat} {cs : Array Value} (h : w.heap[b]? = some (.cells cs t (0, 0))) : w.frozen? ⟨b, k, none⟩ = false := blk_frozen h k
abbrev kW : Kd (Int × List Int) := Kd.pair (Kd.int .i64) (Kd.slice 5 (Kd.int .u8))
def u8s (l : List Int) : List Value := l.map (Value.int .u8)
structure PDx (w : World) (base db sb : Nat) (D : Dk) (vw : Value) (cs : Nat) (sp : List Value) : Prop where
  ok : Ok D
  dbase : base ≤ db
  sbase : base ≤ sb
  wown : ∀ k, vw.ownBlock = some k → base ≤ k
  cells : w.heap[db]? = some (.cells #[.slice (some ⟨sb, 0, none⟩) D.safe.flatten.length cs, vw, .int .i64 D.left, .bool D.off, .int .i64 D.reads, .int .i64 D.writes, .int .i64 D.flushes] 58 (0, 0))
  waits : Kd.R kW 103 w 0 (fun k => k ≠ sb) vw D.waits
  safe : w.heap[sb]? = some (.cells (u8s D.safe.flatten ++ sp).toArray 5 (0, 0))
  room : D.safe.flatten.length + sp.length = cs
def PD (w : World) (base db sb : Nat) (D : Dk) : Prop := ∃ vw cs sp, PDx w base db sb D vw cs sp
theorem PDx.ne {w : World} {base db sb cs : Nat} {D : Dk} {vw : Value} {sp : List Value} (h : PDx w base db sb D vw cs sp) : db ≠ sb := by
  rintro rfl
  have := h.cells.symm.trans h.safe
  simp at this
theorem PDx.below {w w' : World} {base db sb cs : Nat} {D : Dk} {vw : Value} {sp : List Value} (h : PDx w base db sb D vw cs sp) (b : Below w.heap.size w w') : PDx w' base db sb D vw cs sp :=
  ⟨h.ok, h.dbase, h.sbase, h.wown, (b.block db (blk_lt h.cells)).trans h.cells, Kd.R_below h.waits b, (b.block sb (blk_lt h.safe)).trans h.safe, h.room⟩
theorem PD.below {w w' : World} {base db sb : Nat} {D : Dk} (h : PD w base db sb D) (b : Below w.heap.size w w') : PD w' base db sb D := by
  obtain ⟨vw, cs, sp, h⟩ := h
  exact ⟨vw, cs, sp, h.below b⟩
theorem PD.ok {w : World} {base db sb : Nat} {D : Dk} (h : PD w base db sb D) : Ok D := by
  obtain ⟨vw, cs, sp, h⟩ := h
  exact h.ok
theorem PDx.put {w : World} {base db sb cs : Nat} {D D' : Dk} {vw : Value} {sp : List Value} (h : PDx w base db sb D vw cs sp) (k : Nat) (v : Value) (hok : Ok D') (hs : D'.safe = D.safe) (hw : D'.waits = D.waits)
    (hc : (#[.slice (some ⟨sb, 0, none⟩) D.safe.flatten.length cs, vw, .int .i64 D.left, .bool D.off, .int .i64 D.reads, .int .i64 D.writes, .int .i64 D.flushes] : Array Value).setIfInBounds k v = #[.slice (some ⟨sb, 0, none⟩) D.safe.flatten.length cs, vw, .int .i64 D'.left, .bool D'.off, .int .i64 D'.reads, .int .i64 D'.writes, .int .i64 D'.flushes]) :
    PDx (w.setCell ⟨db, k, none⟩ v) base db sb D' vw cs sp := by
  refine ⟨hok, h.dbase, h.sbase, h.wown, ?_, by rw [hw]; exact Kd.R_set h.waits h.cells (by decide) k v, by rw [hs, Below.heap_setCell _ _ _ _ (Ne.symm h.ne)]; exact h.safe, by rw [hs]; exact h.room⟩
  rw [blk_set h.cells k v, hc, hs]
structure Fr (bs : Nat → Prop) (ts : Nat → Nat → Prop) (w w' : World) : Prop where
  os : w'.os = w.os
  tape : w'.tape = w.tape
  output : w'.output = w.output
  size : w.heap.size ≤ w'.heap.size
  block : ∀ k, k < w.heap.size → ¬ bs k → (∀ cells t fz, w.heap[k]? = some (.cells cells t fz) → ¬ ts k t) → w'.heap[k]? = w.heap[k]?
theorem Fr.refl (bs : Nat → Prop) (ts : Nat → Nat → Prop) (w : World) : Fr bs ts w w := ⟨rfl, rfl, rfl, Nat.le_refl _, fun _ _ _ _ => rfl⟩
theorem Fr.trans {bs : Nat → Prop} {ts : Nat → Nat → Prop} {x y z : World} (h : Fr bs ts x y) (k : Fr bs ts y z) : Fr bs ts x z :=
  ⟨k.os.trans h.os, k.tape.trans h.tape, k.output.trans h.output, Nat.le_trans h.size k.size, fun i hi hne ht => by
    have e := h.block i hi hne ht
    exact (k.block i (Nat.lt_of_lt_of_le hi h.size) hne (fun c t fz hc => ht c t fz (e ▸ hc))).trans e⟩
theorem Fr.of_below {bs : Nat → Prop} {ts : Nat → Nat → Prop} {x y : World} (h : Below x.heap.size x y) : Fr bs ts x y := ⟨h.os, h.tape, h.output, h.size, fun k hk _ _ => h.block k hk⟩
theorem Fr.mono {bs bs' : Nat → Prop} {ts ts' : Nat → Nat → Prop} {x y : World} (h : Fr bs ts x y) (hb : ∀ k, bs k → bs' k) (ht : ∀ k t, ts k t → ts' k t) : Fr bs' ts' x y := ⟨h.os, h.tape, h.output, h.size, fun k hk hne h2 => h.block k hk (fun hS => hne (hb k hS)) (fun c t fz hc hS => h2 c t fz hc (ht k t hS))⟩
theorem Fr.set {bs : Nat → Prop} {ts : Nat → Nat → Prop} (w : World) (b k : Nat) (v : Value) (hb : bs b) : Fr bs ts w (w.setCell ⟨b, k, none⟩ v) :=
  ⟨rfl, rfl, rfl, by simp [World.setCell], fun i _ hi _ => Below.heap_setCell _ _ _ _ (fun e => hi (e ▸ hb))⟩
abbrev FP (base db sb : Nat) (w w' : World) : Prop := Fr (fun k => k = db ∨ k = sb) (fun k t => base ≤ k ∧ t = 103) w w'
abbrev FX (base xb : Nat) (w w' : World) : Prop := Fr (fun k => k = xb) (fun k t => base ≤ k ∧ (t = 39 ∨ t = 106)) w w'
theorem flatLen {D : Dk} (h : Ok D) : D.safe.flatten.length = D.safe.length * 256 := flat_len h.len
set_option maxRecDepth 100000 in
theorem blocks_any {w : World} {base db sb : Nat} {D : Dk} (h : PD w base db sb D) :
    Calls Tryz.prog 21 #[.pointer (some ⟨db, 0, none⟩)] w fun e w' => e = .returned (.int .i64 (D.safe.length : Int)) ∧ w' = w := by
  obtain ⟨vw, cs, sp, h⟩ := h
  have c0 : w.cell? ⟨db, 0, none⟩ = some (.slice (some ⟨sb, 0, none⟩) D.safe.flatten.length cs) := cell_blk h.cells
  have HL := Aside0.mk (flatLen h.ok)
  have hf := h.ok.few
  clear h
  obtain ⟨q, hq⟩ : ∃ q, q = D.safe.flatten.length := ⟨_, rfl⟩
  rw [← hq] at c0 HL
  clear hq
  go_enter Tryz.func21, Tryz.ntmps21
  have hq2 := HL.out
  clear HL
  subst hq2
  go_wp2_with fail
  go_ret
  exact ⟨rfl, rfl⟩
set_option maxRecDepth 100000 in
theorem ready_any {w : World} {base db sb : Nat} {D : Dk} (n : Int) (h : PD w base db sb D) :
    Calls Tryz.prog 52 #[.pointer (some ⟨db, 0, none⟩), .int .i64 n] w fun e w' => e = .returned (.int .i64 (ready D n)) ∧ w' = w := by
  have HP := Aside0.mk h
  obtain ⟨vw, cs, sp, h⟩ := h
  have c3 : w.cell? ⟨db, 3, none⟩ = some (.bool D.off) := cell_blk h.cells
  clear h
  unfold ready
  cases hoff : D.off with
  | true =>
    rw [hoff] at c3
    go_enter Tryz.func52, Tryz.ntmps52
    go_wp2_with fail
    go_ret
    exact ⟨rfl, rfl⟩
  | false =>
    rw [hoff] at c3
    by_cases h0 : n < 0
    · rw [if_neg (by simp), if_pos (.inl h0)]
      go_enter Tryz.func52, Tryz.ntmps52
      go_wp2_with fail
      go_ret
      exact ⟨rfl, rfl⟩
    · by_cases h1 : (D.safe.length : Int) ≤ n
      · rw [if_neg (by simp), if_pos (.inr h1)]
        go_enter Tryz.func52, Tryz.ntmps52
        go_wp2_with fail
        refine (blocks_any HP.out).mono ?_
        rintro e w1 ⟨rfl, rfl⟩
        go_wp2_with fail
        go_ret
        exact ⟨rfl, rfl⟩
      · rw [if_neg (by simp), if_neg (by omega)]
        go_enter Tryz.func52, Tryz.ntmps52
        go_wp2_with fail
        refine (blocks_any HP.out).mono ?_
        rintro e w1 ⟨rfl, rfl⟩
        go_wp2_with fail
        go_ret
        exact ⟨rfl, rfl⟩
set_option maxRecDepth 100000 in
theorem off_any {w : World} {base db sb : Nat} {D : Dk} (h : PD w base db sb D) :
    Calls Tryz.prog 37 #[.pointer (some ⟨db, 0, none⟩)] w fun e w' => e = .returned (.bool D.off) ∧ w' = w := by
  obtain ⟨vw, cs, sp, h⟩ := h
  have c3 : w.cell? ⟨db, 3, none⟩ = some (.bool D.off) := cell_blk h.cells
  clear h
  go_enter Tryz.func37, Tryz.ntmps37
  go_wp2_with fail
  go_ret
  exact ⟨rfl, rfl⟩
set_option maxRecDepth 100000 in
theorem waits_any {w : World} {base db sb : Nat} {D : Dk} (h : PD w base db sb D) :
    Calls Tryz.prog 38 #[.pointer (some ⟨db, 0, none⟩)] w fun e w' => e = .returned (.int .i64 (D.waits.length : Int)) ∧ w' = w := by
  obtain ⟨vw, cs, sp, h⟩ := h
  obtain ⟨A, c, rfl⟩ := Kd.R_slice h.waits
  have c1 : w.cell? ⟨db, 1, none⟩ = some (.slice A D.waits.length c) := cell_blk h.cells
  clear h
  go_enter Tryz.func38, Tryz.ntmps38
  go_wp2_with fail
  go_ret
  exact ⟨rfl, rfl⟩
def stopD (D : Dk) (n : Int) : Dk := { D with left := n }
set_option maxRecDepth 100000 in
theorem stop_any {w : World} {base db sb : Nat} {D : Dk} (n : Int) (h : PD w base db sb D) (hn : n ≤ 9223372036854775807) :
    Calls Tryz.prog 33 #[.pointer (some ⟨db, 0, none⟩), .int .i64 n] w fun e w' => (e = .returned (.int .i64 (if n < 0 then 1 else 0)) ∧ PD w' base db sb (if n < 0 then D else stopD D n) ∧ FP base db sb w w') := by
  have HP := Aside0.mk h
  obtain ⟨vw, cs, sp, h⟩ := h
  have c2 : w.cell? ⟨db, 2, none⟩ = some (.int .i64 D.left) := cell_blk h.cells
  have f2 : w.frozen? ⟨db, 2, none⟩ = false := frozen_blk h.cells
  have HX := Aside0.mk h
  clear h
  by_cases h0 : n < 0
  · rw [if_pos h0, if_pos h0]
    go_enter Tryz.func33, Tryz.ntmps33
    go_wp2_with fail
    go_ret
    exact ⟨rfl, HP.out, .refl _ _ _⟩
  · rw [if_neg h0, if_neg h0]
    go_enter Tryz.func33, Tryz.ntmps33
    go_wp2_with fail
    go_ret
    have ho := HX.out.ok
    exact ⟨rfl, ⟨vw, cs, sp, HX.out.put 2 (.int .i64 n) (D' := stopD D n) ⟨ho.few, ho.len, ho.byte, ho.at_, by show -1 ≤ n ∧ n ≤ _; omega⟩ rfl rfl rfl⟩, .set _ _ _ _ (.inl rfl)⟩
def deedD (D : Dk) : Dk := if D.left = 0 then { D with off := true } else { D with left := max (D.left - 1) (-1) }
set_option maxRecDepth 100000 in
theorem deed_any {w : World} {base db sb : Nat} {D : Dk} (h : PD w base db sb D) :
    Calls Tryz.prog 54 #[.pointer (some ⟨db, 0, none⟩)] w fun e w' => e = .returned (.int .i64 (if D.left = 0 then 9 else 0)) ∧ PD w' base db sb (deedD D) ∧ FP base db sb w w' := by
  obtain ⟨vw, cs, sp, h⟩ := h
  have c2 : w.cell? ⟨db, 2, none⟩ = some (.int .i64 D.left) := cell_blk h.cells
  have f2 : w.frozen? ⟨db, 2, none⟩ = false := frozen_blk h.cells
  have c3 : w.cell? ⟨db, 3, none⟩ = some (.bool D.off) := cell_blk h.cells
  have f3 : w.frozen? ⟨db, 3, none⟩ = false := frozen_blk h.cells
  have HX := Aside0.mk h
  have ho := HX.out.ok
  have hl := ho.left
  have HOK := Aside0.mk ho
  clear h ho
  unfold deedD
  obtain ⟨L, hL⟩ : ∃ L, L = D.left := ⟨_, rfl⟩
  by_cases h0 : D.left = 0
  · rw [if_pos h0, if_pos h0]
    rw [h0] at c2
    clear hL
    go_enter Tryz.func54, Tryz.ntmps54
    go_wp2_with fail
    go_ret
    have ho := HOK.out
    exact ⟨rfl, ⟨vw, cs, sp, HX.out.put 3 (.bool true) (D' := { D with off := true }) ⟨ho.few, ho.len, ho.byte, ho.at_, ho.left⟩ rfl rfl rfl⟩, .set _ _ _ _ (.inl rfl)⟩
  · rw [if_neg h0, if_neg h0]
    have ho := HOK.out
    by_cases h1 : 0 < D.left
    · have hm : max (D.left - 1) (-1) = D.left - 1 := by omega
      rw [hm]
      rw [← hL] at c2 hl h0 h1
      have HL := Aside0.mk hL
      clear hL hm ho
      go_enter Tryz.func54, Tryz.ntmps54
      go_wp2_with fail
      · go_ret
        have ho := HOK.out
        have hL := HL.out
        exact ⟨rfl, ⟨vw, cs, sp, HX.out.put 2 (.int .i64 (L - 1)) (D' := { D with left := D.left - 1 }) ⟨ho.few, ho.len, ho.byte, ho.at_, ⟨by show -1 ≤ D.left - 1; omega, by show D.left - 1 ≤ 9223372036854775807; omega⟩⟩ rfl rfl (by rw [hL]; rfl)⟩, .set _ _ _ _ (.inl rfl)⟩
      all_goals (exfalso; omega)
    · have hm : max (D.left - 1) (-1) = -1 := by omega
      have hl1 : D.left = -1 := by omega
      rw [hm]
      rw [hl1] at c2
      clear hL hm ho h0 hl
      go_enter Tryz.func54, Tryz.ntmps54
      go_wp2_with fail
      go_ret
      have ho := HOK.out
      exact ⟨rfl, ⟨vw, cs, sp, HX.out.put 2 (.int .i64 (-1)) (D' := { D with left := -1 }) ⟨ho.few, ho.len, ho.byte, ho.at_, ⟨by show (-1 : Int) ≤ -1; omega, by show (-1 : Int) ≤ 9223372036854775807; omega⟩⟩ rfl rfl rfl⟩, .set _ _ _ _ (.inl rfl)⟩
set_option maxRecDepth 100000 in
theorem add_at (w : World) (b k : Nat) (x y : Int) (hc : w.cell? ⟨b, k, none⟩ = some (.int .i64 x)) (hf : w.frozen? ⟨b, k, none⟩ = false) :
    Calls Tryz.prog 55 #[.pointer (some ⟨b, k, none⟩), .int .i64 y] w fun e w' => e = .returned (.int .i64 (wrap64 (x + y))) ∧ w' = w.setCell ⟨b, k, none⟩ (.int .i64 (wrap64 (x + y))) := by
  have hadd := run_call_add (P := Tryz.prog) Tryz.func77 (by kernel_rfl) (by kernel_rfl) (by kernel_rfl) .i64 (by kernel_rfl) (y := y) (s := wrap64 (x + y)) hc hf (by simp [go_sem, IntKind.wrap_i64, wrap64])
  go_enter Tryz.func55, Tryz.ntmps55
  go_wp2_with fail
  go_ret
  exact ⟨rfl, rfl⟩
theorem zeros_made (n : Nat) : madeCells (Value.int .u8 0).cells (n * 256 * 1) = (u8s (zeros n).flatten).toArray := by
  have hl := flat_len (zeros_len n)
  rw [zeros_size] at hl
  have hu : (u8s (zeros n).flatten).length = n * 256 := by unfold u8s; rw [List.length_map, hl]
  apply Array.ext
  · rw [size_madeCells, List.size_toArray, hu, Nat.mul_one]
  · intro i h1 h2
    have h3 : i < (zeros n).flatten.length := by rw [List.size_toArray, hu] at h2; omega
    have e : (u8s (zeros n).flatten).toArray[i] = Value.int .u8 ((zeros n).flatten[i]) := by simp only [u8s, List.getElem_toArray, List.getElem_map]
    rw [e, zeros_mem (List.getElem_mem h3)]
    simp [madeCells, Value.cells, Nat.mod_one]
theorem zeros_row (n : Nat) (hn : n ≤ 1024) (W : World) : (Instr.makeSlice 39 (.int .i64 ((n : Int) * 256)) (.int .i64 ((n : Int) * 256))).run Tryz.prog W = .ok (.slice (some ⟨W.heap.size, 0, none⟩) (n * 256) (n * 256)) (W.alloc (.cells (u8s (zeros n).flatten).toArray 5)) := by
  have hinfo : (Tryz.prog.info? 5).map (fun i => (i.zero, i.size, i.bytes)) = some (some (.int .u8 0), 1, 1) := by kernel_rfl
  cases hi : Tryz.prog.info? 5 with
  | none => rw [hi] at hinfo; simp at hinfo
  | some i =>
    rw [hi] at hinfo
    simp only [Option.map_some, Option.some.injEq, Prod.mk.injEq] at hinfo
    obtain ⟨hz, hs, hb⟩ := hinfo
    have hr := run_make (P := Tryz.prog) W 39 5 i (.int .u8 0) Tryz.underlying39 hi hz .i64 .i64 ((n * 256 : Nat) : Int) ((n * 256 : Nat) : Int) (by omega) (Int.le_refl _) (by rw [hb]; omega) (by omega)
    rw [hs] at hr
    simp only [Int.toNat_natCast] at hr
    rw [zeros_made] at hr
    have e : ((n * 256 : Nat) : Int) = (n : Int) * 256 := by omega
    rw [e] at hr
    exact hr
set_option maxRecDepth 100000 in
theorem blank_yes (n : Nat) (w : World) (h : 16 ≤ n ∧ n ≤ 1024) :
    Calls Tryz.prog 4 #[.int .i64 n] w fun e w' => ∃ db sb, e = .returned (.tuple #[.pointer (some ⟨db, 0, none⟩), .int .i64 0]) ∧ PD w' w.heap.size db sb (blankD n) ∧ Below w.heap.size w w' := by
  have hmk := zeros_row n h.2
  have HOK := Aside0.mk (blank_ok n h)
  have hfl := flat_len (zeros_len n)
  rw [zeros_size] at hfl
  have HFL := Aside0.mk hfl
  obtain ⟨h1, h2⟩ := h
  clear hfl
  go_enter Tryz.func4, Tryz.ntmps4
  go_wp2_with fail
  refine (disk_blocks.calls n true w (by unfold disk_blocks.f; rw [if_pos (by omega)]; simp; omega)).mono ?_
  rintro e w1 ⟨rfl, ⟨k, rfl⟩⟩
  obtain ⟨w1, hw1⟩ : ∃ w1, w1 = w.drewN k := ⟨_, rfl⟩
  rw [← hw1]
  have HB := Aside0.mk (show Below w.heap.size w w1 by rw [hw1]; exact pw_below_drewN (Below.refl _ _) k)
  clear hw1
  go_wp2_with fail
  obtain ⟨w2, hw2⟩ : ∃ w2, w2 = w1.alloc (.cells (u8s (zeros n).flatten).toArray 5) := ⟨_, rfl⟩
  have hb1 := (Below.refl w1.heap.size w1).alloc (Nat.le_refl _) (.cells (u8s (zeros n).flatten).toArray 5)
  have hh1 := heap_alloc_new w1 (.cells (u8s (zeros n).flatten).toArray 5)
  have hsz : w1.heap.size + 1 = w2.heap.size := by rw [hw2]; simp
  rw [← hw2] at hb1 hh1
  rw [← hw2, hsz]
  have hb2 := (Below.refl w2.heap.size w2).alloc (Nat.le_refl _) (.cells #[.slice (some ⟨w1.heap.size, 0, none⟩) (n * 256) (n * 256), .slice none 0 0, .int .i64 (-1), .bool false, .int .i64 0, .int .i64 0, .int .i64 0] 58)
  have hh2 := heap_alloc_new w2 (.cells #[.slice (some ⟨w1.heap.size, 0, none⟩) (n * 256) (n * 256), .slice none 0 0, .int .i64 (-1), .bool false, .int .i64 0, .int .i64 0, .int .i64 0] 58)
  go_ret2
  have hfl := HFL.out
  refine ⟨w2.heap.size, w1.heap.size, rfl, ⟨.slice none 0 0, n * 256, [], ⟨HOK.out, by have := HB.out.size; omega, HB.out.size, fun _ h => by simp [Value.ownBlock] at h, ?_, Kd.R_nil _ _ _ _ _, ?_, ?_⟩⟩, (HB.out.trans (hb1.mono HB.out.size)).trans (hb2.mono (by have := HB.out.size; omega))⟩
  · show _ = some (Obj.cells #[.slice (some ⟨w1.heap.size, 0, none⟩) (zeros n).flatten.length (n * 256), .slice none 0 0, .int .i64 (-1), .bool false, .int .i64 0, .int .i64 0, .int .i64 0] 58 (0, 0))
    rw [hfl]
    exact hh2
  · rw [List.append_nil]
    exact (hb2.block _ (by omega)).trans hh1
  · show (zeros n).flatten.length + 0 = _
    omega
end Disk
end Go.Proofs.YtclneeamemofoaaGreat
namespace Go.Proofs.YtclneeamemofoaaGreat
set_option linter.unusedVariables false
set_option linter.unusedSimpArgs false
open Go.RowKit Go.Proofs.YtclneeamemofoaaGreatW.PrintWords Go.Proofs.YtclneeamemofoaaGreatW.PrintLast Go.Proofs.YtclneeamemofoaaGreatW.PrintMore
namespace Disk
open Go.Disk PDiskDoes PChain
theorem infoU8 : (Tryz.prog.info? 5).map (fun i => (i.zero, i.size, i.bytes)) = some (some (.int .u8 0), 1, 1) := by kernel_rfl
theorem eq_nil (a : Addr) (n c : Nat) (W : World) : (binOp BinOp.eql 39 (.slice (some a) n c) (.slice none 0 0)).run Tryz.prog W = .ok (.bool false) W := by
  kernel_rfl
set_option maxHeartbeats 8000000 in
set_option maxRecDepth 100000 in
theorem clone8 {w : World} (a : Addr) (c : Nat) (xs : List Int) (hC : Kd.C (Kd.int .u8) w (some a) xs.length xs) (hl : xs.length ≤ 262144) :
    Calls Tryz.prog 53 #[.slice (some a) xs.length c] w fun e w' => ∃ v, e = .returned v ∧ Kd.R (Kd.int .u8) 5 w' w.heap.size (fun _ => True) v xs ∧ v ≠ .slice none 0 0 ∧ Below w.heap.size w w' := by
  have HC := Aside0.mk hC
  clear hC
  have heq := eq_nil a xs.length c
  go_enter Tryz.func53, Tryz.ntmps53
  go_wp2_with ((with_reducible refine gate_builtin (b := .append) (xs := #[.tmp 5, .tmp 6]) rfl ?_); at_builtin; refine Hid.out ?_)
  refine Lib.hid ?_
  have HAL := Aside0.mk ((Below.refl w.heap.size w).alloc (Nat.le_refl _) (.cells #[] 5))
  refine Kd.R_append_rows (Kd.int .u8) (Rr := (Kd.int .u8).K (w.alloc (.cells #[] 5))) (w0 := w) w.heap.size rfl (.tmp 5) (.tmp 6) 39 5 (.int .u8 0) 1 rfl Tryz.underlying39 infoU8 rfl (by decide) (by omega) (.slice (some ⟨w.heap.size, 0, none⟩) 0 0) [] xs (some a) xs.length c (fun _ => True) (fun _ => False) rfl rfl ?aO ?aR (fun x cs h => h) (fun _ hk => hk.elim) (fun _ _ => trivial) HAL.out ?aS ?aL ?_
  case aO => exact ⟨fun _ _ => trivial, OwnRow.lit w w.heap.size (Reps.none _ _) (Nat.le_refl _) (by simp)⟩
  case aR => exact Kd.C_below HC.out HAL.out
  case aS => simp
  case aL => simp; omega
  intro v1 w1 ho hb hg hat
  have HO := Aside0.mk ho
  have HB := Aside0.mk hb
  have HAT := Aside0.mk hat
  clear ho hb hg hat
  go_wp2_with fail
  go_ret
  refine ⟨v1, rfl, by simpa using HO.out, fun e => ?_, HB.out⟩
  rcases HAT.out with h | ⟨b, h, _⟩
  · rw [e] at h; simp [Value.ownBlock] at h
  · rw [e] at h; simp [Value.ownBlock] at h
set_option maxHeartbeats 8000000 in
set_option maxRecDepth 100000 in
theorem block_at {w : World} (sb nb cs n : Nat) (hn : n < nb) (hnb : nb ≤ 1024) (hcs : nb * 256 ≤ cs) :
    Calls Tryz.prog 65 #[.slice (some ⟨sb, 0, none⟩) (nb * 256) cs, .int .i64 n] w fun e w' => e = .returned (.slice (some ⟨sb, n * 256, none⟩) 256 256) ∧ w' = w := by
  have h1 : (n : Int) * 256 ≤ ((n : Int) + 1) * 256 := by omega
  have h2 : ((n : Int) + 1) * 256 ≤ (cs : Int) := by omega
  have h3 : (0 : Int) ≤ (n : Int) * 256 := by omega
  go_enter Tryz.func65, Tryz.ntmps65
  go_wp2_with fail
  go_ret
  refine ⟨?_, rfl⟩
  show Ending.returned (Value.slice (some ⟨sb, n * 256, none⟩) ((n + 1) * 256 - n * 256) ((n + 1) * 256 - n * 256)) = _
  rw [show (n + 1) * 256 - n * 256 = 256 by omega]
theorem u8s_len (l : List Int) : (u8s l).length = l.length := List.length_map _
theorem u8s_lay (F P : List Int) (sp : List Value) (o : Nat) (h : o + P.length ≤ F.length) : (u8s F ++ sp).take o ++ u8s P ++ (u8s F ++ sp).drop (o + (u8s P).length) = u8s (lay F o P) ++ sp := by
  rw [u8s_len, List.take_append_of_le_length (by rw [u8s_len]; omega), List.drop_append_of_le_length (by rw [u8s_len]; omega)]
  unfold lay u8s
  simp [List.map_take, List.map_drop]
theorem copy_in {w : World} {g o dl dc sl sc : Nat} (a : Addr) (F P : List Int) (sp : List Value) (hb : w.heap[g]? = some (.cells (u8s F ++ sp).toArray 5 (0, 0))) (ho : o + P.length ≤ F.length) (hn : P.length = Nat.min sl dl)
    (hs : ∀ j, j < P.length → w.cell? (a.add j) = some (.int .u8 (P.getD j 0))) :
    ∃ w', (Builtin.copy_ #[39, 39] 3 #[.slice (some ⟨g, o, none⟩) dl dc, .slice (some a) sl sc]).run Tryz.prog w = .ok (.int .i64 (P.length : Int)) w' ∧ w'.heap[g]? = some (.cells (u8s (lay F o P) ++ sp).toArray 5 (0, 0)) ∧ Fr (fun k => k = g) (fun _ _ => False) w w' := by
  have hsz : ∀ j, j < P.length → o + j < (u8s F ++ sp).toArray.size := fun j hj => by rw [List.size_toArray, List.length_append, u8s_len]; omega
  have hr := run_copy_cells (P := Tryz.prog) w 39 39 3 5 g o dl dc a sl sc (u8s P) Tryz.underlying39 (by kernel_rfl) (by rw [u8s_len]; exact hn) (fun j v hv => ?_) (fun j hj => ?_) (fun j hj => ?_) (fun v hv => ?_)
  · refine ⟨w.setCells g o (u8s P), ?_, ?_, ?_⟩
    · rw [u8s_len] at hr
      exact hr
    · obtain ⟨cur', h1, h2, h3⟩ := setCells_row (u8s P) o w (u8s F ++ sp).toArray hb (by rw [List.size_toArray, List.length_append, u8s_len, u8s_len]; omega)
      rw [h1]
      have : cur' = (u8s (lay F o P) ++ sp).toArray := by
        rw [← u8s_lay F P sp o ho]
        apply Array.ext'
        rw [h3]
      rw [this]
    · obtain ⟨s1, s2, s3, s4⟩ := setCells_same g (u8s P) o w
      exact ⟨s1, s2, s3, by rw [s4]; exact Nat.le_refl _, fun k _ hk _ => setCells_far _ _ _ hk⟩
  · have hjl : j < P.length := by
      rcases Nat.lt_or_ge j P.length with h | h
      · exact h
      · rw [List.getElem?_eq_none (by rw [u8s_len]; exact h)] at hv; cases hv
    have e : v = .int .u8 (P.getD j 0) := by
      unfold u8s at hv
      rw [List.getElem?_map, List.getElem?_eq_getElem hjl] at hv
      simp at hv
      rw [← hv]
      simp [hjl]
    rw [e]
    exact hs j hjl
  · rw [cell_blk hb, Array.getElem?_eq_getElem (hsz j (by rw [u8s_len] at hj; exact hj))]
    rfl
  · exact frozen_blk hb
  · unfold u8s at hv
    obtain ⟨x, _, rfl⟩ := List.mem_map.1 hv
    rfl
def onM (mask : Int) (k : Nat) : Bool := Go.bits .and .i64 (mask / 2 ^ k) 1 == 1
def tearD (D : Dk) (n : Nat) (bs : List Int) (mask : Int) : Dk := { D with safe := D.safe.set n (tornTo (onM mask) (D.safe.getD n []) bs 4) }
theorem tornTo_byte (on : Nat → Bool) (was bs : List Int) (hw : ∀ x ∈ was, 0 ≤ x ∧ x ≤ 255) (hb : ∀ x ∈ bs, 0 ≤ x ∧ x ≤ 255) : ∀ k, ∀ x ∈ tornTo on was bs k, 0 ≤ x ∧ x ≤ 255
  | 0 => hw
  | k + 1 => by
    have ih := tornTo_byte on was bs hw hb k
    unfold tornTo
    split
    · intro x hx
      rcases List.mem_append.1 hx with h | h
      · exact ih x (List.mem_of_mem_take h)
      · rcases List.mem_append.1 h with h | h
        · exact hb x (List.mem_of_mem_drop (List.mem_of_mem_take h))
        · exact ih x (List.mem_of_mem_drop h)
    · exact ih
theorem getD_get {l : List (List Int)} (n : Nat) (hn : n < l.length) : l.getD n [] = l[n] := by simp [List.getD_eq_getElem?_getD, hn]
theorem ok_set {D : Dk} (h : Ok D) (n : Nat) (c : List Int) (hc : c.length = 256) (hb : ∀ x ∈ c, 0 ≤ x ∧ x ≤ 255) : Ok { D with safe := D.safe.set n c } := by
  refine ⟨by show 16 ≤ (D.safe.set n c).length ∧ _; rw [List.length_set]; exact h.few, fun b hbm => ?_, fun b hbm => ?_, fun p hp => ?_, h.left⟩
  · rcases List.mem_or_eq_of_mem_set hbm with h1 | h1
    · exact h.len b h1
    · rw [h1]; exact hc
  · rcases List.mem_or_eq_of_mem_set hbm with h1 | h1
    · exact h.byte b h1
    · rw [h1]; exact hb
  · have h1 := h.at_ p hp
    show 0 ≤ p.1 ∧ p.1 < (D.safe.set n c).length ∧ _
    rw [List.length_set]
    exact h1
theorem tear_ok {D : Dk} (h : Ok D) (n : Nat) (hn : n < D.safe.length) (bs : List Int) (hl : bs.length = 256) (hb : ∀ x ∈ bs, 0 ≤ x ∧ x ≤ 255) (mask : Int) : Ok (tearD D n bs mask) := by
  unfold tearD
  rw [getD_get n hn]
  exact ok_set h n _ (tornTo_len _ _ _ (h.len _ (List.getElem_mem hn)) hl 4 (Nat.le_refl _)) (tornTo_byte _ _ _ (h.byte _ (List.getElem_mem hn)) hb 4)
set_option maxHeartbeats 8000000 in
set_option maxRecDepth 100000 in
theorem tear_any {w : World} {base db sb : Nat} {D : Dk} (h : PD w base db sb D) (N : Int) (a : Addr) (c : Nat) (bs : List Int) (mask : Int) (hN : 0 ≤ N ∧ N < D.safe.length) (hlen : bs.length = 256) (hc : 256 ≤ c) (hC : ∀ x, (∀ k, k < w.heap.size → k ≠ sb → x.heap[k]? = w.heap[k]?) → Kd.C (Kd.int .u8) x (some a) bs.length bs) (hby : ∀ x ∈ bs, 0 ≤ x ∧ x ≤ 255) :
    Calls Tryz.prog 66 #[.pointer (some ⟨db, 0, none⟩), .agg #[.int .i64 N, .slice (some a) bs.length c], .int .i64 mask] w fun e w' => (∃ v, e = .returned v) ∧ PD w' base db sb (tearD D N.toNat bs mask) ∧ Fr (fun k => k = sb) (fun _ _ => False) w w' := by
  obtain ⟨vw, cs, sp, h⟩ := h
  have HX := Aside0.mk h
  have HC := Aside0.mk hC
  have HBY := Aside0.mk hby
  have hf := h.ok.few
  clear h hC hby
  rw [hlen]
  obtain ⟨n, rfl⟩ : ∃ n : Nat, N = n := ⟨N.toNat, by omega⟩
  have hn : n < D.safe.length := by omega
  clear hN
  have HFL := Aside0.mk (flatLen HX.out.ok)
  go_enter Tryz.func66, Tryz.ntmps66
  go_wp2_with fail
  obtain ⟨W, hW⟩ : ∃ W, W = w.alloc (.cells #[.int .i64 n, .slice (some a) 256 c] 103) := ⟨_, rfl⟩
  have hal : Below w.heap.size w W := by rw [hW]; exact (Below.refl _ _).alloc (Nat.le_refl _) _
  have hbx : W.heap[w.heap.size]? = some (.cells #[.int .i64 n, .slice (some a) 256 c] 103 (0, 0)) := by rw [hW]; exact heap_alloc_new w _
  rw [← hW]
  have HBX := Aside0.mk hbx
  have HAL := Aside0.mk hal
  have HXW := Aside0.mk (HX.out.below hal)
  clear hW hal hbx
  have c0 : W.cell? ⟨db, 0, none⟩ = some (.slice (some ⟨sb, 0, none⟩) (D.safe.length * 256) cs) := by rw [← HFL.out]; exact cell_blk HXW.out.cells
  have b0 : W.cell? ⟨w.heap.size, 0, none⟩ = some (.int .i64 n) := cell_blk HBX.out
  have b1 : W.cell? ⟨w.heap.size, 1, none⟩ = some (.slice (some a) 256 c) := cell_blk HBX.out
  have hm0 : ∀ m : Go.Reg.In (fun x => x = W.drew), m.w.cell? ⟨db, 0, none⟩ = some (.slice (some ⟨sb, 0, none⟩) (D.safe.length * 256) cs) := fun m => by rw [m.h]; exact c0
  have hm1 : ∀ m : Go.Reg.In (fun x => x = W.drew), m.w.cell? ⟨w.heap.size, 0, none⟩ = some (.int .i64 n) := fun m => by rw [m.h]; exact b0
  have hroom : D.safe.length * 256 ≤ cs := by have := HX.out.room; have := HFL.out; omega
  refine Go.Reg.region (fun x => x = W.drew) [.s, .s, .s, .s, .s, .s, .x, .p] (by kernel_rfl) (by kernel_rfl) rfl (fun ne => ?_)
  refine Go.Reg.lex_q 6 _ _ _ _ (by rfl) ?_; simp only [List.take_succ_cons, List.take_zero, List.drop_succ_cons, List.drop_zero]; (repeat (go_big_quiet_step (rfl))); refine wpQuiet_nil ?_
  refine Go.Reg.step_x (by rfl) (fun K hK => ?_)
  go_wp2_with fail
  refine (block_at sb D.safe.length cs n hn (by omega) hroom).mono ?_
  rintro e w1 ⟨rfl, rfl⟩
  go_wp2_with fail
  refine hK.out _ _ ?_
  clear hK K
  refine Go.Reg.lex_qp 1 _ _ _ _ _ (by rfl) ?_; simp only [List.take_succ_cons, List.take_zero, List.drop_succ_cons, List.drop_zero]; (repeat (go_big_quiet_step (rfl))); refine wpQuiet_nil ?_
  refine Go.Reg.lex_nil ?_
  go_wp2_with fail
  clear hm0 hm1
  obtain ⟨on, hon⟩ : ∃ on : Nat → Bool, on = onM mask := ⟨_, rfl⟩
  have HON := Aside0.mk (show ∀ k, on k = (Go.bits .and .i64 (mask / 2 ^ k) 1 == 1) from fun k => by rw [hon]; rfl)
  have HONE := Aside0.mk hon
  clear hon
  go_loopg [16, 7, 8] 4 (fun g v16 v7 v8 wr => ∃ (k : Nat), Aside0 (k + g = 4) ∧ v16 = .int .i64 k ∧ Aside0 (wr.heap[sb]? = some (.cells (u8s (D.safe.set n (tornTo on (D.safe[n]'hn) bs k)).flatten ++ sp).toArray 5 (0, 0))) ∧ Aside0 (Fr (fun k => k = sb) (fun _ _ => False) W wr))
  case atStart => exact ⟨0, ⟨by omega⟩, rfl, ⟨by rw [show tornTo on (D.safe[n]'hn) bs 0 = D.safe[n]'hn from rfl, List.set_getElem_self]; exact HXW.out.safe⟩, ⟨.of_below (below_drew1 (Below.refl _ _))⟩⟩
  case round =>
    obtain ⟨k, HK, rfl, HSB, HFR⟩ := hrel
    by_cases hk : k < 4
    · have hBW : w.heap.size < W.heap.size := (Array.getElem?_eq_some_iff.1 HBX.out).1
      have hsw : sb < w.heap.size := blk_lt HX.out.safe
      have b1 : wr.cell? ⟨w.heap.size, 1, none⟩ = some (.slice (some a) 256 c) := cell_blk ((HFR.out.block _ hBW (by omega) (fun _ _ _ _ h => h)).trans HBX.out)
      cases hb : on k with
      | false =>
        have hbit : (Go.bits .and .i64 (mask / 2 ^ k) 1 == 1) = false := by rw [← HON.out]; exact hb
        go_wp2_with fail
        go_roundg (gk - 1)
        case measure => have := HK.out; omega
        case rel => exact ⟨k + 1, ⟨by have := HK.out; omega⟩, by go_num, by rw [show tornTo on (D.safe[n]'hn) bs (k + 1) = tornTo on (D.safe[n]'hn) bs k by rw [tornTo, hb]; rfl]; exact HSB, HFR⟩
      | true =>
        have hbit : (Go.bits .and .i64 (mask / 2 ^ k) 1 == 1) = true := by rw [← HON.out]; exact hb
        go_wp2_with fail
        have hm1 : ∀ m : Go.Reg.In (fun x => x = wr.drew), m.w.cell? ⟨w.heap.size, 1, none⟩ = some (.slice (some a) 256 c) := fun m => by rw [m.h]; exact b1
        have q1 : (k : Int) * 64 ≤ (k : Int) * 64 + 64 := by omega
        have q2 : (k : Int) * 64 + 64 ≤ 256 := by omega
        have q3 : (0 : Int) ≤ (k : Int) * 64 := by omega
        have q4 : (k : Int) * 64 ≤ 256 := by omega
        refine Go.Reg.region (fun x => x = wr.drew) [.s, .s, .s, .s, .s, .s, .s, .s, .s, .x] (by kernel_rfl) (by kernel_rfl) rfl (fun ne => ?_)
        refine Go.Reg.lex_q 9 _ _ _ _ (by rfl) ?_; simp only [List.take_succ_cons, List.take_zero, List.drop_succ_cons, List.drop_zero]; (repeat (go_big_quiet_step (rfl))); refine wpQuiet_nil ?_
        have hgl : (D.safe.set n (tornTo on (D.safe[n]'hn) bs k)).flatten.length = D.safe.length * 256 := by
          rw [flat_len (fun b hb => ?_), List.length_set]
          rcases List.mem_or_eq_of_mem_set hb with h | h
          · exact HX.out.ok.len b h
          · rw [h]; exact tornTo_len on _ bs (HX.out.ok.len _ (List.getElem_mem hn)) hlen k (by omega)
        have hpl : ((bs.drop (64 * k)).take 64).length = 64 := by rw [List.length_take, List.length_drop]; omega
        have hlb := lay_block HX.out.ok.len n hn (tornTo on (D.safe[n]'hn) bs k) ((bs.drop (64 * k)).take 64) (tornTo_len on _ bs (HX.out.ok.len _ (List.getElem_mem hn)) hlen k (by omega)) (64 * k) (by rw [hpl]; omega)
        have hto : lay (tornTo on (D.safe[n]'hn) bs k) (64 * k) ((bs.drop (64 * k)).take 64) = tornTo on (D.safe[n]'hn) bs (k + 1) := by
          unfold lay
          rw [hpl, show tornTo on (D.safe[n]'hn) bs (k + 1) = (tornTo on (D.safe[n]'hn) bs k).take (64 * k) ++ ((bs.drop (64 * k)).take 64 ++ (tornTo on (D.safe[n]'hn) bs k).drop (64 * k + 64)) by rw [tornTo, hb]; rfl]
        rw [hto] at hlb
        have hCW : Kd.C (Kd.int .u8) wr.drew (some a) bs.length bs := HC.out _ (fun j hj hne => (HFR.out.block j (by omega) hne (fun _ _ _ _ h => h)).trans (HAL.out.block j hj))
        obtain ⟨w7, hcp, hs7, hf7⟩ := copy_in (w := wr.drew) (g := sb) (o := n * 256 + k * 64) (dl := k * 64 + 64 - k * 64) (dc := 256 - k * 64) (sl := 256 - k * 64) (sc := c - k * 64) (a.add (k * 64)) (D.safe.set n (tornTo on (D.safe[n]'hn) bs k)).flatten ((bs.drop (64 * k)).take 64) sp HSB.out (by rw [hgl, hpl]; omega) (by rw [hpl]; show 64 = min _ _; omega) (fun j hj => by
          rw [hpl] at hj
          obtain ⟨ad, e, hcell⟩ := Kd.at_int hCW ((k * 64 + j : Nat) : Int) (by omega) (by omega)
          cases e
          rw [Int.toNat_natCast] at hcell
          rw [Go.Deep.add_add, hcell]
          congr 2
          unfold rd
          rw [Int.toNat_natCast, List.getD_eq_getElem?_getD, List.getD_eq_getElem?_getD, List.getElem?_take_of_lt (by omega), List.getElem?_drop]
          rw [show 64 * k + j = k * 64 + j by omega])
        rw [show n * 256 + k * 64 = n * 256 + 64 * k by omega] at hs7
        rw [hlb] at hs7
        rw [hpl, show k * 64 + 64 - k * 64 = 64 by omega] at hcp
        have HS7 := Aside0.mk hs7
        have HF7 := Aside0.mk (HFR.out.trans ((Fr.of_below (below_drew1 (Below.refl _ _))).trans hf7))
        clear hs7 hf7 hlb hto hCW hgl hpl
        refine Go.Reg.step_x (by rfl) (fun K hK => ?_)
        go_wp2_with fail
        refine hK.out _ _ ?_
        clear hK K
        refine Go.Reg.lex_nil ?_
        go_wp2_with fail
        go_roundg (gk - 1)
        case measure => have := HK.out; omega
        case rel => exact ⟨k + 1, ⟨by have := HK.out; omega⟩, by go_num, HS7, HF7⟩
    · have hk4 : k = 4 := by have := HK.out; omega
      subst hk4
      go_wp2_with fail
      go_end0
      have hgl : (D.safe.set n (tornTo on (D.safe[n]'hn) bs 4)).flatten.length = D.safe.flatten.length := by
        have ho := (ok_set HX.out.ok n (tornTo on (D.safe[n]'hn) bs 4) (tornTo_len _ _ _ (HX.out.ok.len _ (List.getElem_mem hn)) hlen 4 (Nat.le_refl _)) (tornTo_byte _ _ _ (HX.out.ok.byte _ (List.getElem_mem hn)) HBY.out 4))
        rw [flat_len ho.len, HFL.out, List.length_set]
      have hfr := (Fr.of_below (bs := fun k => k = sb) (ts := fun _ _ => False) HAL.out).trans HFR.out
      refine ⟨⟨_, rfl⟩, ⟨vw, cs, sp, ?_⟩, hfr⟩
      rw [Int.toNat_natCast]
      have hto := tear_ok HX.out.ok n hn bs hlen HBY.out mask
      have hde : tearD D n bs mask = { D with safe := D.safe.set n (tornTo on (D.safe[n]'hn) bs 4) } := by
        unfold tearD
        rw [getD_get n hn, HONE.out]
      rw [hde] at hto ⊢
      refine ⟨hto, HX.out.dbase, HX.out.sbase, HX.out.wown, ?_, ?_, HSB.out, ?_⟩
      · show wr.heap[db]? = some (Obj.cells #[.slice (some ⟨sb, 0, none⟩) (D.safe.set n (tornTo on (D.safe[n]'hn) bs 4)).flatten.length cs, _, _, _, _, _, _] _ _)
        rw [hgl]
        exact (hfr.block db (blk_lt HX.out.cells) HX.out.ne (fun _ _ _ _ h => h)).trans HX.out.cells
      · exact Kd.R_step HX.out.waits (fun j hj hlt => hfr.block j hlt hj (fun _ _ _ _ h => h))
      · show (D.safe.set n (tornTo on (D.safe[n]'hn) bs 4)).flatten.length + sp.length = cs
        rw [hgl]
        exact HX.out.room
end Disk
end Go.Proofs.YtclneeamemofoaaGreat
end
