/- Part 7 of the proof of SuperWhole: lemmas alone. -/
import Derived.Test.YtopfjmeejpamjaaZSuperWholeP5
import Derived.Test.YtopfjmeejpamjaaProg
import Derived.Laws.LoneSync
import Derived.Below
import Derived.Lib.Hide
import Derived.OwnWalk
import Derived.WalkKit
import Derived.KernelRfl
import Derived.RowKit3
import Derived.Deep.LoopGhost
import Derived.Deep.QuietTactic
import Derived.BigQuiet
import Derived.WideLaws
import Derived.Outline
import Derived.Deep.DeepCutAuto
import Derived.WalkSpells
import Derived.RegionTactic
import Derived.BigRegion
import Derived.WalkLawsBesides
import Derived.Great.BuildSlice
import Derived.Deep.Slices
import Derived.RangeFuncNested
import Derived.RangeFuncBound
import Derived.RangeFuncCalls
import Derived.RangeFuncLeaves
import Derived.Shelf.Abstract
import Derived.Shelf.RegionOpen
import Derived.OwnWalkIn
import Derived.TacticsInMore
import Derived.LoopNIn
import Derived.LoopIn
import Derived.Deep.SlicePairs
import Derived.Deep.Strs
import Derived.ChangeSame
section
namespace Go.Disk
set_option linter.unusedVariables false
structure Dk where
  safe : List (List Int)
  waits : List (Int × List Int)
  left : Int
  off : Bool
  reads : Int
  writes : Int
  flushes : Int
structure Ok (D : Dk) : Prop where
  few : 16 ≤ D.safe.length ∧ D.safe.length ≤ 1024
  len : ∀ b ∈ D.safe, b.length = 256
  byte : ∀ b ∈ D.safe, ∀ x ∈ b, 0 ≤ x ∧ x ≤ 255
  at_ : ∀ p ∈ D.waits, 0 ≤ p.1 ∧ p.1 < D.safe.length ∧ p.2.length = 256 ∧ ∀ x ∈ p.2, 0 ≤ x ∧ x ≤ 255
  left : -1 ≤ D.left ∧ D.left ≤ 9223372036854775807
def rep (n : Nat) (x : Int) : List Int := List.replicate n x
theorem rep_len (n : Nat) (x : Int) : (rep n x).length = n := List.length_replicate
theorem rep_mem {n : Nat} {x y : Int} (h : y ∈ rep n x) : y = x := (List.mem_replicate.1 h).2
def zblock : List Int := rep 256 0
theorem zblock_len : zblock.length = 256 := rep_len 256 0
theorem zblock_mem {x : Int} (h : x ∈ zblock) : x = 0 := rep_mem h
def zeros (n : Nat) : List (List Int) := List.replicate n zblock
def blankD (n : Nat) : Dk := ⟨zeros n, [], -1, false, 0, 0, 0⟩
theorem zeros_len (n : Nat) : ∀ b ∈ zeros n, b.length = 256 := fun b hb => by
  rw [(List.mem_replicate.1 hb).2]
  exact zblock_len
theorem zeros_size (n : Nat) : (zeros n).length = n := List.length_replicate
theorem zeros_mem {n : Nat} {x : Int} (h : x ∈ (zeros n).flatten) : x = 0 := by
  obtain ⟨l, hl, hx⟩ := List.mem_flatten.1 h
  rw [(List.mem_replicate.1 hl).2] at hx
  exact zblock_mem hx
theorem blank_ok (n : Nat) (h : 16 ≤ n ∧ n ≤ 1024) : Ok (blankD n) := by
  refine ⟨by show 16 ≤ (zeros n).length ∧ (zeros n).length ≤ 1024; rw [zeros_size]; exact h, zeros_len n, fun b hb x hx => ?_, fun p hp => by simp [blankD] at hp, by simp [blankD]⟩
  rw [(List.mem_replicate.1 hb).2] at hx
  rw [zblock_mem hx]
  omega
def ready (D : Dk) (n : Int) : Int := if D.off then 9 else if n < 0 ∨ (D.safe.length : Int) ≤ n then 10 else 0
theorem flat_len {l : List (List Int)} (h : ∀ b ∈ l, b.length = 256) : l.flatten.length = l.length * 256 := by
  induction l with
  | nil => rfl
  | cons b l ih =>
    rw [List.flatten_cons, List.length_append, ih (fun c hc => h c (List.mem_cons_of_mem _ hc)), h b List.mem_cons_self, List.length_cons]
    omega
theorem flat_block {l : List (List Int)} (h : ∀ b ∈ l, b.length = 256) (n : Nat) (hn : n < l.length) : (l.flatten.drop (n * 256)).take 256 = l[n] := by
  induction l generalizing n with
  | nil => simp at hn
  | cons b l ih =>
    have hb := h b List.mem_cons_self
    cases n with
    | zero =>
      rw [List.flatten_cons, Nat.zero_mul, List.drop_zero, List.take_append_of_le_length (by omega), ← hb, List.take_length]
      rfl
    | succ n =>
      rw [List.flatten_cons, show (n + 1) * 256 = b.length + n * 256 by omega, List.drop_append, List.getElem_cons_succ]
      rw [show b.length + n * 256 - b.length = n * 256 by omega, List.drop_eq_nil_of_le (by omega), List.nil_append]
      exact ih (fun c hc => h c (List.mem_cons_of_mem _ hc)) n (by simpa using hn)
theorem flat_set {l : List (List Int)} (h : ∀ b ∈ l, b.length = 256) (n : Nat) (hn : n < l.length) (c : List Int) (hc : c.length = 256) : (l.set n c).flatten = l.flatten.take (n * 256) ++ c ++ l.flatten.drop (n * 256 + 256) := by
  induction l generalizing n with
  | nil => simp at hn
  | cons b l ih =>
    have hb := h b List.mem_cons_self
    cases n with
    | zero =>
      rw [List.set_cons_zero, List.flatten_cons, List.flatten_cons, Nat.zero_mul, List.take_zero, List.nil_append, Nat.zero_add, List.drop_append, List.drop_eq_nil_of_le (by omega), List.nil_append, hb]
      rfl
    | succ n =>
      rw [List.set_cons_succ, List.flatten_cons, List.flatten_cons, ih (fun c hc => h c (List.mem_cons_of_mem _ hc)) n (by simpa using hn)]
      rw [show (n + 1) * 256 = b.length + n * 256 by omega, List.take_length_add_append, show b.length + n * 256 + 256 = b.length + (n * 256 + 256) by omega, List.drop_length_add_append]
      simp
def tornTo (on : Nat → Bool) (was bs : List Int) : Nat → List Int
  | 0 => was
  | k + 1 => if on k then (tornTo on was bs k).take (64 * k) ++ ((bs.drop (64 * k)).take 64 ++ (tornTo on was bs k).drop (64 * k + 64)) else tornTo on was bs k
theorem tornTo_len (on : Nat → Bool) (was bs : List Int) (hw : was.length = 256) (hb : bs.length = 256) : ∀ k, k ≤ 4 → (tornTo on was bs k).length = 256
  | 0, _ => hw
  | k + 1, h => by
    have ih := tornTo_len on was bs hw hb k (by omega)
    unfold tornTo
    split
    · simp only [List.length_append, List.length_take, List.length_drop]
      omega
    · exact ih
def lay (l : List Int) (o : Nat) (xs : List Int) : List Int := l.take o ++ (xs ++ l.drop (o + xs.length))
theorem lay_len (l : List Int) (o : Nat) (xs : List Int) (h : o + xs.length ≤ l.length) : (lay l o xs).length = l.length := by
  simp only [lay, List.length_append, List.length_take, List.length_drop]
  omega
theorem lay_mid (A c B xs : List Int) (o : Nat) (ho : o + xs.length ≤ c.length) : lay (A ++ c ++ B) (A.length + o) xs = A ++ lay c o xs ++ B := by
  unfold lay
  rw [show A.length + o + xs.length = A.length + (o + xs.length) by omega, List.append_assoc, List.take_length_add_append, List.drop_length_add_append, List.take_append_of_le_length (by omega), List.drop_append_of_le_length (by omega)]
  simp
theorem lay_block {l : List (List Int)} (h : ∀ b ∈ l, b.length = 256) (n : Nat) (hn : n < l.length) (c xs : List Int) (hc : c.length = 256) (o : Nat) (ho : o + xs.length ≤ 256) :
    lay (l.set n c).flatten (n * 256 + o) xs = (l.set n (lay c o xs)).flatten := by
  have hl := flat_len h
  have hA : (l.flatten.take (n * 256)).length = n * 256 := by rw [List.length_take, hl]; omega
  have h1 := flat_set h n hn c hc
  have h2 := flat_set h n hn (lay c o xs) (by rw [lay_len c o xs (by omega)]; exact hc)
  have h3 := lay_mid (l.flatten.take (n * 256)) c (l.flatten.drop (n * 256 + 256)) xs o (by omega)
  rw [hA] at h3
  rw [h1, h2, h3]
end Go.Disk
namespace Go.Proofs.Ytopfjmeejpamjaa
set_option linter.unusedVariables false
set_option linter.unusedSimpArgs false
open Go.RowKit Go.Proofs.YtopfjmeejpamjaaW.PrintWords Go.Proofs.YtopfjmeejpamjaaW.PrintLast Go.Proofs.YtopfjmeejpamjaaW.PrintMore
namespace Disk
open Go.Disk PDiskDoes PSuper
theorem cell_blk {w : World} {b k t : Nat} {cs : Array Value} (h : w.heap[b]? = some (.cells cs t (0, 0))) : w.cell? ⟨b, k, none⟩ = cs[k]? := blk_cell h k
theorem frozen_blk {w : World} {b k t : Nat} {cs : Array Value} (h : w.heap[b]? = some (.cells cs t (0, 0))) : w.frozen? ⟨b, k, none⟩ = false := blk_frozen h k
abbrev kW : Kd (Int × List Int) := Kd.pair (Kd.int .i64) (Kd.slice 5 (Kd.int .u8))
def u8s (l : List Int) : List Value := l.map (Value.int .u8)
structure PDx (w : World) (base db sb : Nat) (D : Dk) (vw : Value) (cs : Nat) (sp : List Value) : Prop where
  ok : Ok D
  dbase : base ≤ db
  sbase : base ≤ sb
  wown : ∀ k, vw.ownBlock = some k → base ≤ k
  cells : w.heap[db]? = some (.cells #[.slice (some ⟨sb, 0, none⟩) D.safe.flatten.length cs, vw, .int .i64 D.left, .bool D.off, .int .i64 D.reads, .int .i64 D.writes, .int .i64 D.flushes] 91 (0, 0))
  waits : Kd.R kW 94 w 0 (fun k => k ≠ sb) vw D.waits
  safe : w.heap[sb]? = some (.cells (u8s D.safe.flatten ++ sp).toArray 5 (0, 0))
  room : D.safe.flatten.length + sp.length = cs
def PD (w : World) (base db sb : Nat) (D : Dk) : Prop := ∃ vw cs sp, PDx w base db sb D vw cs sp
theorem PDx.ne {w : World} {base db sb cs : Nat} {D : Dk} {vw : Value} {sp : List Value} (h : PDx w base db sb D vw cs sp) : db ≠ sb := by
  rintro rfl
  have := h.cells.symm.trans h.safe
  simp at this
theorem PDx.below {w w' : World} {base db sb cs : Nat} {D : Dk} {vw : Value} {sp : List Value} (h : PDx w base db sb D vw cs sp) (b : Below w.heap.size w w') : PDx w' base db sb D vw cs sp :=
  ⟨h.ok, h.dbase, h.sbase, h.wown, (b.block db (blk_lt h.cells)).trans h.cells, Kd.R_below h.waits b, (b.block sb (blk_lt h.safe)).trans h.safe, h.room⟩
theorem PD.below {w w' : World} {base db sb : Nat} {D : Dk} (h : PD w base db sb D) (b : Below w.heap.size w w') : PD w' base db sb D := by
  obtain ⟨vw, cs, sp, h⟩ := h
  exact ⟨vw, cs, sp, h.below b⟩
theorem PD.ok {w : World} {base db sb : Nat} {D : Dk} (h : PD w base db sb D) : Ok D := by
  obtain ⟨vw, cs, sp, h⟩ := h
  exact h.ok
theorem PDx.put {w : World} {base db sb cs : Nat} {D D' : Dk} {vw : Value} {sp : List Value} (h : PDx w base db sb D vw cs sp) (k : Nat) (v : Value) (hok : Ok D') (hs : D'.safe = D.safe) (hw : D'.waits = D.waits)
    (hc : (#[.slice (some ⟨sb, 0, none⟩) D.safe.flatten.length cs, vw, .int .i64 D.left, .bool D.off, .int .i64 D.reads, .int .i64 D.writes, .int .i64 D.flushes] : Array Value).setIfInBounds k v = #[.slice (some ⟨sb, 0, none⟩) D.safe.flatten.length cs, vw, .int .i64 D'.left, .bool D'.off, .int .i64 D'.reads, .int .i64 D'.writes, .int .i64 D'.flushes]) :
    PDx (w.setCell ⟨db, k, none⟩ v) base db sb D' vw cs sp := by
  refine ⟨hok, h.dbase, h.sbase, h.wown, ?_, by rw [hw]; exact Kd.R_set h.waits h.cells (by decide) k v, by rw [hs, Below.heap_setCell _ _ _ _ (Ne.symm h.ne)]; exact h.safe, by rw [hs]; exact h.room⟩
  rw [blk_set h.cells k v, hc, hs]
structure Fr (bs : Nat → Prop) (ts : Nat → Nat → Prop) (w w' : World) : Prop where
  os : w'.os = w.os
  tape : w'.tape = w.tape
  output : w'.output = w.output
  size : w.heap.size ≤ w'.heap.size
  block : ∀ k, k < w.heap.size → ¬ bs k → (∀ cells t fz, w.heap[k]? = some (.cells cells t fz) → ¬ ts k t) → w'.heap[k]? = w.heap[k]?
theorem Fr.refl (bs : Nat → Prop) (ts : Nat → Nat → Prop) (w : World) : Fr bs ts w w := ⟨rfl, rfl, rfl, Nat.le_refl _, fun _ _ _ _ => rfl⟩
theorem Fr.trans {bs : Nat → Prop} {ts : Nat → Nat → Prop} {x y z : World} (h : Fr bs ts x y) (k : Fr bs ts y z) : Fr bs ts x z :=
  ⟨k.os.trans h.os, k.tape.trans h.tape, k.output.trans h.output, Nat.le_trans h.size k.size, fun i hi hne ht => by
    have e := h.block i hi hne ht
    exact (k.block i (Nat.lt_of_lt_of_le hi h.size) hne (fun c t fz hc => ht c t fz (e ▸ hc))).trans e⟩
theorem Fr.of_below {bs : Nat → Prop} {ts : Nat → Nat → Prop} {x y : World} (h : Below x.heap.size x y) : Fr bs ts x y := ⟨h.os, h.tape, h.output, h.size, fun k hk _ _ => h.block k hk⟩
theorem Fr.mono {bs bs' : Nat → Prop} {ts ts' : Nat → Nat → Prop} {x y : World} (h : Fr bs ts x y) (hb : ∀ k, bs k → bs' k) (ht : ∀ k t, ts k t → ts' k t) : Fr bs' ts' x y := ⟨h.os, h.tape, h.output, h.size, fun k hk hne h2 => h.block k hk (fun hS => hne (hb k hS)) (fun c t fz hc hS => h2 c t fz hc (ht k t hS))⟩
theorem Fr.set {bs : Nat → Prop} {ts : Nat → Nat → Prop} (w : World) (b k : Nat) (v : Value) (hb : bs b) : Fr bs ts w (w.setCell ⟨b, k, none⟩ v) :=
  ⟨rfl, rfl, rfl, by simp [World.setCell], fun i _ hi _ => Below.heap_setCell _ _ _ _ (fun e => hi (e ▸ hb))⟩
abbrev FP (base db sb : Nat) (w w' : World) : Prop := Fr (fun k => k = db ∨ k = sb) (fun k t => base ≤ k ∧ t = 94) w w'
abbrev FX (base xb : Nat) (w w' : World) : Prop := Fr (fun k => k = xb) (fun k t => base ≤ k ∧ (t = 26 ∨ t = 117)) w w'
theorem flatLen {D : Dk} (h : Ok D) : D.safe.flatten.length = D.safe.length * 256 := flat_len h.len
set_option maxRecDepth 100000 in
theorem blocks_any {w : World} {base db sb : Nat} {D : Dk} (h : PD w base db sb D) :
    Calls Try.prog 45 #[.pointer (some ⟨db, 0, none⟩)] w fun e w' => e = .returned (.int .i64 (D.safe.length : Int)) ∧ w' = w := by
  obtain ⟨vw, cs, sp, h⟩ := h
  have c0 : w.cell? ⟨db, 0, none⟩ = some (.slice (some ⟨sb, 0, none⟩) D.safe.flatten.length cs) := cell_blk h.cells
  have HL := Aside0.mk (flatLen h.ok)
  have hf := h.ok.few
  clear h
  obtain ⟨q, hq⟩ : ∃ q, q = D.safe.flatten.length := ⟨_, rfl⟩
  rw [← hq] at c0 HL
  clear hq
  go_enter Try.func45, Try.ntmps45
  have hq2 := HL.out
  clear HL
  subst hq2
  go_wp2_with fail
  go_ret
  exact ⟨rfl, rfl⟩
set_option maxRecDepth 100000 in
theorem ready_any {w : World} {base db sb : Nat} {D : Dk} (n : Int) (h : PD w base db sb D) :
    Calls Try.prog 76 #[.pointer (some ⟨db, 0, none⟩), .int .i64 n] w fun e w' => e = .returned (.int .i64 (ready D n)) ∧ w' = w := by
  have HP := Aside0.mk h
  obtain ⟨vw, cs, sp, h⟩ := h
  have c3 : w.cell? ⟨db, 3, none⟩ = some (.bool D.off) := cell_blk h.cells
  clear h
  unfold ready
  cases hoff : D.off with
  | true =>
    rw [hoff] at c3
    go_enter Try.func76, Try.ntmps76
    go_wp2_with fail
    go_ret
    exact ⟨rfl, rfl⟩
  | false =>
    rw [hoff] at c3
    by_cases h0 : n < 0
    · rw [if_neg (by simp), if_pos (.inl h0)]
      go_enter Try.func76, Try.ntmps76
      go_wp2_with fail
      go_ret
      exact ⟨rfl, rfl⟩
    · by_cases h1 : (D.safe.length : Int) ≤ n
      · rw [if_neg (by simp), if_pos (.inr h1)]
        go_enter Try.func76, Try.ntmps76
        go_wp2_with fail
        refine (blocks_any HP.out).mono ?_
        rintro e w1 ⟨rfl, rfl⟩
        go_wp2_with fail
        go_ret
        exact ⟨rfl, rfl⟩
      · rw [if_neg (by simp), if_neg (by omega)]
        go_enter Try.func76, Try.ntmps76
        go_wp2_with fail
        refine (blocks_any HP.out).mono ?_
        rintro e w1 ⟨rfl, rfl⟩
        go_wp2_with fail
        go_ret
        exact ⟨rfl, rfl⟩
def stopD (D : Dk) (n : Int) : Dk := { D with left := n }
set_option maxRecDepth 100000 in
theorem stop_any {w : World} {base db sb : Nat} {D : Dk} (n : Int) (h : PD w base db sb D) (hn : n ≤ 9223372036854775807) :
    Calls Try.prog 16 #[.pointer (some ⟨db, 0, none⟩), .int .i64 n] w fun e w' => (e = .returned (.int .i64 (if n < 0 then 1 else 0)) ∧ PD w' base db sb (if n < 0 then D else stopD D n) ∧ FP base db sb w w') := by
  have HP := Aside0.mk h
  obtain ⟨vw, cs, sp, h⟩ := h
  have c2 : w.cell? ⟨db, 2, none⟩ = some (.int .i64 D.left) := cell_blk h.cells
  have f2 : w.frozen? ⟨db, 2, none⟩ = false := frozen_blk h.cells
  have HX := Aside0.mk h
  clear h
  by_cases h0 : n < 0
  · rw [if_pos h0, if_pos h0]
    go_enter Try.func16, Try.ntmps16
    go_wp2_with fail
    go_ret
    exact ⟨rfl, HP.out, .refl _ _ _⟩
  · rw [if_neg h0, if_neg h0]
    go_enter Try.func16, Try.ntmps16
    go_wp2_with fail
    go_ret
    have ho := HX.out.ok
    exact ⟨rfl, ⟨vw, cs, sp, HX.out.put 2 (.int .i64 n) (D' := stopD D n) ⟨ho.few, ho.len, ho.byte, ho.at_, by show -1 ≤ n ∧ n ≤ _; omega⟩ rfl rfl rfl⟩, .set _ _ _ _ (.inl rfl)⟩
def deedD (D : Dk) : Dk := if D.left = 0 then { D with off := true } else { D with left := max (D.left - 1) (-1) }
set_option maxRecDepth 100000 in
theorem deed_any {w : World} {base db sb : Nat} {D : Dk} (h : PD w base db sb D) :
    Calls Try.prog 79 #[.pointer (some ⟨db, 0, none⟩)] w fun e w' => e = .returned (.int .i64 (if D.left = 0 then 9 else 0)) ∧ PD w' base db sb (deedD D) ∧ FP base db sb w w' := by
  obtain ⟨vw, cs, sp, h⟩ := h
  have c2 : w.cell? ⟨db, 2, none⟩ = some (.int .i64 D.left) := cell_blk h.cells
  have f2 : w.frozen? ⟨db, 2, none⟩ = false := frozen_blk h.cells
  have c3 : w.cell? ⟨db, 3, none⟩ = some (.bool D.off) := cell_blk h.cells
  have f3 : w.frozen? ⟨db, 3, none⟩ = false := frozen_blk h.cells
  have HX := Aside0.mk h
  have ho := HX.out.ok
  have hl := ho.left
  have HOK := Aside0.mk ho
  clear h ho
  unfold deedD
  obtain ⟨L, hL⟩ : ∃ L, L = D.left := ⟨_, rfl⟩
  by_cases h0 : D.left = 0
  · rw [if_pos h0, if_pos h0]
    rw [h0] at c2
    clear hL
    go_enter Try.func79, Try.ntmps79
    go_wp2_with fail
    go_ret
    have ho := HOK.out
    exact ⟨rfl, ⟨vw, cs, sp, HX.out.put 3 (.bool true) (D' := { D with off := true }) ⟨ho.few, ho.len, ho.byte, ho.at_, ho.left⟩ rfl rfl rfl⟩, .set _ _ _ _ (.inl rfl)⟩
  · rw [if_neg h0, if_neg h0]
    have ho := HOK.out
    by_cases h1 : 0 < D.left
    · have hm : max (D.left - 1) (-1) = D.left - 1 := by omega
      rw [hm]
      rw [← hL] at c2 hl h0 h1
      have HL := Aside0.mk hL
      clear hL hm ho
      go_enter Try.func79, Try.ntmps79
      go_wp2_with fail
      · go_ret
        have ho := HOK.out
        have hL := HL.out
        exact ⟨rfl, ⟨vw, cs, sp, HX.out.put 2 (.int .i64 (L - 1)) (D' := { D with left := D.left - 1 }) ⟨ho.few, ho.len, ho.byte, ho.at_, ⟨by show -1 ≤ D.left - 1; omega, by show D.left - 1 ≤ 9223372036854775807; omega⟩⟩ rfl rfl (by rw [hL]; rfl)⟩, .set _ _ _ _ (.inl rfl)⟩
      all_goals (exfalso; omega)
    · have hm : max (D.left - 1) (-1) = -1 := by omega
      have hl1 : D.left = -1 := by omega
      rw [hm]
      rw [hl1] at c2
      clear hL hm ho h0 hl
      go_enter Try.func79, Try.ntmps79
      go_wp2_with fail
      go_ret
      have ho := HOK.out
      exact ⟨rfl, ⟨vw, cs, sp, HX.out.put 2 (.int .i64 (-1)) (D' := { D with left := -1 }) ⟨ho.few, ho.len, ho.byte, ho.at_, ⟨by show (-1 : Int) ≤ -1; omega, by show (-1 : Int) ≤ 9223372036854775807; omega⟩⟩ rfl rfl rfl⟩, .set _ _ _ _ (.inl rfl)⟩
set_option maxRecDepth 100000 in
theorem add_at (w : World) (b k : Nat) (x y : Int) (hc : w.cell? ⟨b, k, none⟩ = some (.int .i64 x)) (hf : w.frozen? ⟨b, k, none⟩ = false) :
    Calls Try.prog 77 #[.pointer (some ⟨b, k, none⟩), .int .i64 y] w fun e w' => e = .returned (.int .i64 (wrap64 (x + y))) ∧ w' = w.setCell ⟨b, k, none⟩ (.int .i64 (wrap64 (x + y))) := by
  have hadd := run_call_add (P := Try.prog) Try.func93 (by kernel_rfl) (by kernel_rfl) (by kernel_rfl) .i64 (by kernel_rfl) (y := y) (s := wrap64 (x + y)) hc hf (by simp [go_sem, IntKind.wrap_i64, wrap64])
  go_enter Try.func77, Try.ntmps77
  go_wp2_with fail
  go_ret
  exact ⟨rfl, rfl⟩
theorem zeros_made (n : Nat) : madeCells (Value.int .u8 0).cells (n * 256 * 1) = (u8s (zeros n).flatten).toArray := by
  have hl := flat_len (zeros_len n)
  rw [zeros_size] at hl
  have hu : (u8s (zeros n).flatten).length = n * 256 := by unfold u8s; rw [List.length_map, hl]
  apply Array.ext
  · rw [size_madeCells, List.size_toArray, hu, Nat.mul_one]
  · intro i h1 h2
    have h3 : i < (zeros n).flatten.length := by rw [List.size_toArray, hu] at h2; omega
    have e : (u8s (zeros n).flatten).toArray[i] = Value.int .u8 ((zeros n).flatten[i]) := by simp only [u8s, List.getElem_toArray, List.getElem_map]
    rw [e, zeros_mem (List.getElem_mem h3)]
    simp [madeCells, Value.cells, Nat.mod_one]
theorem zeros_row (n : Nat) (hn : n ≤ 1024) (W : World) : (Instr.makeSlice 26 (.int .i64 ((n : Int) * 256)) (.int .i64 ((n : Int) * 256))).run Try.prog W = .ok (.slice (some ⟨W.heap.size, 0, none⟩) (n * 256) (n * 256)) (W.alloc (.cells (u8s (zeros n).flatten).toArray 5)) := by
  have hinfo : (Try.prog.info? 5).map (fun i => (i.zero, i.size, i.bytes)) = some (some (.int .u8 0), 1, 1) := by kernel_rfl
  cases hi : Try.prog.info? 5 with
  | none => rw [hi] at hinfo; simp at hinfo
  | some i =>
    rw [hi] at hinfo
    simp only [Option.map_some, Option.some.injEq, Prod.mk.injEq] at hinfo
    obtain ⟨hz, hs, hb⟩ := hinfo
    have hr := run_make (P := Try.prog) W 26 5 i (.int .u8 0) Try.underlying26 hi hz .i64 .i64 ((n * 256 : Nat) : Int) ((n * 256 : Nat) : Int) (by omega) (Int.le_refl _) (by rw [hb]; omega) (by omega)
    rw [hs] at hr
    simp only [Int.toNat_natCast] at hr
    rw [zeros_made] at hr
    have e : ((n * 256 : Nat) : Int) = (n : Int) * 256 := by omega
    rw [e] at hr
    exact hr
set_option maxRecDepth 100000 in
theorem blank_yes (n : Nat) (w : World) (h : 16 ≤ n ∧ n ≤ 1024) :
    Calls Try.prog 14 #[.int .i64 n] w fun e w' => ∃ db sb, e = .returned (.tuple #[.pointer (some ⟨db, 0, none⟩), .int .i64 0]) ∧ PD w' w.heap.size db sb (blankD n) ∧ Below w.heap.size w w' := by
  have hmk := zeros_row n h.2
  have HOK := Aside0.mk (blank_ok n h)
  have hfl := flat_len (zeros_len n)
  rw [zeros_size] at hfl
  have HFL := Aside0.mk hfl
  obtain ⟨h1, h2⟩ := h
  clear hfl
  go_enter Try.func14, Try.ntmps14
  go_wp2_with fail
  refine (disk_blocks.calls n true w (by unfold disk_blocks.f; rw [if_pos (by omega)]; simp; omega)).mono ?_
  rintro e w1 ⟨rfl, ⟨k, rfl⟩⟩
  obtain ⟨w1, hw1⟩ : ∃ w1, w1 = w.drewN k := ⟨_, rfl⟩
  rw [← hw1]
  have HB := Aside0.mk (show Below w.heap.size w w1 by rw [hw1]; exact pw_below_drewN (Below.refl _ _) k)
  clear hw1
  go_wp2_with fail
  obtain ⟨w2, hw2⟩ : ∃ w2, w2 = w1.alloc (.cells (u8s (zeros n).flatten).toArray 5) := ⟨_, rfl⟩
  have hb1 := (Below.refl w1.heap.size w1).alloc (Nat.le_refl _) (.cells (u8s (zeros n).flatten).toArray 5)
  have hh1 := heap_alloc_new w1 (.cells (u8s (zeros n).flatten).toArray 5)
  have hsz : w1.heap.size + 1 = w2.heap.size := by rw [hw2]; simp
  rw [← hw2] at hb1 hh1
  rw [← hw2, hsz]
  have hb2 := (Below.refl w2.heap.size w2).alloc (Nat.le_refl _) (.cells #[.slice (some ⟨w1.heap.size, 0, none⟩) (n * 256) (n * 256), .slice none 0 0, .int .i64 (-1), .bool false, .int .i64 0, .int .i64 0, .int .i64 0] 91)
  have hh2 := heap_alloc_new w2 (.cells #[.slice (some ⟨w1.heap.size, 0, none⟩) (n * 256) (n * 256), .slice none 0 0, .int .i64 (-1), .bool false, .int .i64 0, .int .i64 0, .int .i64 0] 91)
  go_ret2
  have hfl := HFL.out
  refine ⟨w2.heap.size, w1.heap.size, rfl, ⟨.slice none 0 0, n * 256, [], ⟨HOK.out, by have := HB.out.size; omega, HB.out.size, fun _ h => by simp [Value.ownBlock] at h, ?_, Kd.R_nil _ _ _ _ _, ?_, ?_⟩⟩, (HB.out.trans (hb1.mono HB.out.size)).trans (hb2.mono (by have := HB.out.size; omega))⟩
  · show _ = some (Obj.cells #[.slice (some ⟨w1.heap.size, 0, none⟩) (zeros n).flatten.length (n * 256), .slice none 0 0, .int .i64 (-1), .bool false, .int .i64 0, .int .i64 0, .int .i64 0] 91 (0, 0))
    rw [hfl]
    exact hh2
  · rw [List.append_nil]
    exact (hb2.block _ (by omega)).trans hh1
  · show (zeros n).flatten.length + 0 = _
    omega
end Disk
end Go.Proofs.Ytopfjmeejpamjaa
namespace Go.Proofs.Ytopfjmeejpamjaa
set_option linter.unusedVariables false
set_option linter.unusedSimpArgs false
open Go.RowKit Go.Proofs.YtopfjmeejpamjaaW.PrintWords Go.Proofs.YtopfjmeejpamjaaW.PrintLast Go.Proofs.YtopfjmeejpamjaaW.PrintMore
namespace Disk
open Go.Disk PDiskDoes PSuper
theorem infoU8 : (Try.prog.info? 5).map (fun i => (i.zero, i.size, i.bytes)) = some (some (.int .u8 0), 1, 1) := by kernel_rfl
theorem eq_nil (a : Addr) (n c : Nat) (W : World) : (binOp BinOp.eql 26 (.slice (some a) n c) (.slice none 0 0)).run Try.prog W = .ok (.bool false) W := by
  kernel_rfl
set_option maxHeartbeats 8000000 in
set_option maxRecDepth 100000 in
theorem clone8 {w : World} (a : Addr) (c : Nat) (xs : List Int) (hC : Kd.C (Kd.int .u8) w (some a) xs.length xs) (hl : xs.length ≤ 262144) :
    Calls Try.prog 51 #[.slice (some a) xs.length c] w fun e w' => ∃ v, e = .returned v ∧ Kd.R (Kd.int .u8) 5 w' w.heap.size (fun _ => True) v xs ∧ v ≠ .slice none 0 0 ∧ Below w.heap.size w w' := by
  have HC := Aside0.mk hC
  clear hC
  have heq := eq_nil a xs.length c
  go_enter Try.func51, Try.ntmps51
  go_wp2_with ((with_reducible refine gate_builtin (b := .append) (xs := #[.tmp 5, .tmp 6]) rfl ?_); at_builtin; refine Hid.out ?_)
  refine Lib.hid ?_
  have HAL := Aside0.mk ((Below.refl w.heap.size w).alloc (Nat.le_refl _) (.cells #[] 5))
  refine Kd.R_append_rows (Kd.int .u8) (Rr := (Kd.int .u8).K (w.alloc (.cells #[] 5))) (w0 := w) w.heap.size rfl (.tmp 5) (.tmp 6) 26 5 (.int .u8 0) 1 rfl Try.underlying26 infoU8 rfl (by decide) (by omega) (.slice (some ⟨w.heap.size, 0, none⟩) 0 0) [] xs (some a) xs.length c (fun _ => True) (fun _ => False) rfl rfl ?aO ?aR (fun x cs h => h) (fun _ hk => hk.elim) (fun _ _ => trivial) HAL.out ?aS ?aL ?_
  case aO => exact ⟨fun _ _ => trivial, OwnRow.lit w w.heap.size (Reps.none _ _) (Nat.le_refl _) (by simp)⟩
  case aR => exact Kd.C_below HC.out HAL.out
  case aS => simp
  case aL => simp; omega
  intro v1 w1 ho hb hg hat
  have HO := Aside0.mk ho
  have HB := Aside0.mk hb
  have HAT := Aside0.mk hat
  clear ho hb hg hat
  go_wp2_with fail
  go_ret
  refine ⟨v1, rfl, by simpa using HO.out, fun e => ?_, HB.out⟩
  rcases HAT.out with h | ⟨b, h, _⟩
  · rw [e] at h; simp [Value.ownBlock] at h
  · rw [e] at h; simp [Value.ownBlock] at h
set_option maxHeartbeats 8000000 in
set_option maxRecDepth 100000 in
theorem block_at {w : World} (sb nb cs n : Nat) (hn : n < nb) (hnb : nb ≤ 1024) (hcs : nb * 256 ≤ cs) :
    Calls Try.prog 81 #[.slice (some ⟨sb, 0, none⟩) (nb * 256) cs, .int .i64 n] w fun e w' => e = .returned (.slice (some ⟨sb, n * 256, none⟩) 256 256) ∧ w' = w := by
  have h1 : (n : Int) * 256 ≤ ((n : Int) + 1) * 256 := by omega
  have h2 : ((n : Int) + 1) * 256 ≤ (cs : Int) := by omega
  have h3 : (0 : Int) ≤ (n : Int) * 256 := by omega
  go_enter Try.func81, Try.ntmps81
  go_wp2_with fail
  go_ret
  refine ⟨?_, rfl⟩
  show Ending.returned (Value.slice (some ⟨sb, n * 256, none⟩) ((n + 1) * 256 - n * 256) ((n + 1) * 256 - n * 256)) = _
  rw [show (n + 1) * 256 - n * 256 = 256 by omega]
theorem u8s_len (l : List Int) : (u8s l).length = l.length := List.length_map _
theorem u8s_lay (F P : List Int) (sp : List Value) (o : Nat) (h : o + P.length ≤ F.length) : (u8s F ++ sp).take o ++ u8s P ++ (u8s F ++ sp).drop (o + (u8s P).length) = u8s (lay F o P) ++ sp := by
  rw [u8s_len, List.take_append_of_le_length (by rw [u8s_len]; omega), List.drop_append_of_le_length (by rw [u8s_len]; omega)]
  unfold lay u8s
  simp [List.map_take, List.map_drop]
theorem copy_in {w : World} {g o dl dc sl sc : Nat} (a : Addr) (F P : List Int) (sp : List Value) (hb : w.heap[g]? = some (.cells (u8s F ++ sp).toArray 5 (0, 0))) (ho : o + P.length ≤ F.length) (hn : P.length = Nat.min sl dl)
    (hs : ∀ j, j < P.length → w.cell? (a.add j) = some (.int .u8 (P.getD j 0))) :
    ∃ w', (Builtin.copy_ #[26, 26] 3 #[.slice (some ⟨g, o, none⟩) dl dc, .slice (some a) sl sc]).run Try.prog w = .ok (.int .i64 (P.length : Int)) w' ∧ w'.heap[g]? = some (.cells (u8s (lay F o P) ++ sp).toArray 5 (0, 0)) ∧ Fr (fun k => k = g) (fun _ _ => False) w w' := by
  have hsz : ∀ j, j < P.length → o + j < (u8s F ++ sp).toArray.size := fun j hj => by rw [List.size_toArray, List.length_append, u8s_len]; omega
  have hr := run_copy_cells (P := Try.prog) w 26 26 3 5 g o dl dc a sl sc (u8s P) Try.underlying26 (by kernel_rfl) (by rw [u8s_len]; exact hn) (fun j v hv => ?_) (fun j hj => ?_) (fun j hj => ?_) (fun v hv => ?_)
  · refine ⟨w.setCells g o (u8s P), ?_, ?_, ?_⟩
    · rw [u8s_len] at hr
      exact hr
    · obtain ⟨cur', h1, h2, h3⟩ := setCells_row (u8s P) o w (u8s F ++ sp).toArray hb (by rw [List.size_toArray, List.length_append, u8s_len, u8s_len]; omega)
      rw [h1]
      have : cur' = (u8s (lay F o P) ++ sp).toArray := by
        rw [← u8s_lay F P sp o ho]
        apply Array.ext'
        rw [h3]
      rw [this]
    · obtain ⟨s1, s2, s3, s4⟩ := setCells_same g (u8s P) o w
      exact ⟨s1, s2, s3, by rw [s4]; exact Nat.le_refl _, fun k _ hk _ => setCells_far _ _ _ hk⟩
  · have hjl : j < P.length := by
      rcases Nat.lt_or_ge j P.length with h | h
      · exact h
      · rw [List.getElem?_eq_none (by rw [u8s_len]; exact h)] at hv; cases hv
    have e : v = .int .u8 (P.getD j 0) := by
      unfold u8s at hv
      rw [List.getElem?_map, List.getElem?_eq_getElem hjl] at hv
      simp at hv
      rw [← hv]
      simp [hjl]
    rw [e]
    exact hs j hjl
  · rw [cell_blk hb, Array.getElem?_eq_getElem (hsz j (by rw [u8s_len] at hj; exact hj))]
    rfl
  · exact frozen_blk hb
  · unfold u8s at hv
    obtain ⟨x, _, rfl⟩ := List.mem_map.1 hv
    rfl
def onM (mask : Int) (k : Nat) : Bool := Go.bits .and .i64 (mask / 2 ^ k) 1 == 1
def tearD (D : Dk) (n : Nat) (bs : List Int) (mask : Int) : Dk := { D with safe := D.safe.set n (tornTo (onM mask) (D.safe.getD n []) bs 4) }
theorem tornTo_byte (on : Nat → Bool) (was bs : List Int) (hw : ∀ x ∈ was, 0 ≤ x ∧ x ≤ 255) (hb : ∀ x ∈ bs, 0 ≤ x ∧ x ≤ 255) : ∀ k, ∀ x ∈ tornTo on was bs k, 0 ≤ x ∧ x ≤ 255
  | 0 => hw
  | k + 1 => by
    have ih := tornTo_byte on was bs hw hb k
    unfold tornTo
    split
    · intro x hx
      rcases List.mem_append.1 hx with h | h
      · exact ih x (List.mem_of_mem_take h)
      · rcases List.mem_append.1 h with h | h
        · exact hb x (List.mem_of_mem_drop (List.mem_of_mem_take h))
        · exact ih x (List.mem_of_mem_drop h)
    · exact ih
theorem getD_get {l : List (List Int)} (n : Nat) (hn : n < l.length) : l.getD n [] = l[n] := by simp [List.getD_eq_getElem?_getD, hn]
theorem ok_set {D : Dk} (h : Ok D) (n : Nat) (c : List Int) (hc : c.length = 256) (hb : ∀ x ∈ c, 0 ≤ x ∧ x ≤ 255) : Ok { D with safe := D.safe.set n c } := by
  refine ⟨by show 16 ≤ (D.safe.set n c).length ∧ _; rw [List.length_set]; exact h.few, fun b hbm => ?_, fun b hbm => ?_, fun p hp => ?_, h.left⟩
  · rcases List.mem_or_eq_of_mem_set hbm with h1 | h1
    · exact h.len b h1
    · rw [h1]; exact hc
  · rcases List.mem_or_eq_of_mem_set hbm with h1 | h1
    · exact h.byte b h1
    · rw [h1]; exact hb
  · have h1 := h.at_ p hp
    show 0 ≤ p.1 ∧ p.1 < (D.safe.set n c).length ∧ _
    rw [List.length_set]
    exact h1
theorem tear_ok {D : Dk} (h : Ok D) (n : Nat) (hn : n < D.safe.length) (bs : List Int) (hl : bs.length = 256) (hb : ∀ x ∈ bs, 0 ≤ x ∧ x ≤ 255) (mask : Int) : Ok (tearD D n bs mask) := by
  unfold tearD
  rw [getD_get n hn]
  exact ok_set h n _ (tornTo_len _ _ _ (h.len _ (List.getElem_mem hn)) hl 4 (Nat.le_refl _)) (tornTo_byte _ _ _ (h.byte _ (List.getElem_mem hn)) hb 4)
set_option maxHeartbeats 8000000 in
set_option maxRecDepth 100000 in
theorem tear_any {w : World} {base db sb : Nat} {D : Dk} (h : PD w base db sb D) (N : Int) (a : Addr) (c : Nat) (bs : List Int) (mask : Int) (hN : 0 ≤ N ∧ N < D.safe.length) (hlen : bs.length = 256) (hc : 256 ≤ c) (hC : ∀ x, (∀ k, k < w.heap.size → k ≠ sb → x.heap[k]? = w.heap[k]?) → Kd.C (Kd.int .u8) x (some a) bs.length bs) (hby : ∀ x ∈ bs, 0 ≤ x ∧ x ≤ 255) :
    Calls Try.prog 47 #[.pointer (some ⟨db, 0, none⟩), .agg #[.int .i64 N, .slice (some a) bs.length c], .int .i64 mask] w fun e w' => (∃ v, e = .returned v) ∧ PD w' base db sb (tearD D N.toNat bs mask) ∧ Fr (fun k => k = sb) (fun _ _ => False) w w' := by
  obtain ⟨vw, cs, sp, h⟩ := h
  have HX := Aside0.mk h
  have HC := Aside0.mk hC
  have HBY := Aside0.mk hby
  have hf := h.ok.few
  clear h hC hby
  rw [hlen]
  obtain ⟨n, rfl⟩ : ∃ n : Nat, N = n := ⟨N.toNat, by omega⟩
  have hn : n < D.safe.length := by omega
  clear hN
  have HFL := Aside0.mk (flatLen HX.out.ok)
  go_enter Try.func47, Try.ntmps47
  go_wp2_with fail
  obtain ⟨W, hW⟩ : ∃ W, W = w.alloc (.cells #[.int .i64 n, .slice (some a) 256 c] 94) := ⟨_, rfl⟩
  have hal : Below w.heap.size w W := by rw [hW]; exact (Below.refl _ _).alloc (Nat.le_refl _) _
  have hbx : W.heap[w.heap.size]? = some (.cells #[.int .i64 n, .slice (some a) 256 c] 94 (0, 0)) := by rw [hW]; exact heap_alloc_new w _
  rw [← hW]
  have HBX := Aside0.mk hbx
  have HAL := Aside0.mk hal
  have HXW := Aside0.mk (HX.out.below hal)
  clear hW hal hbx
  have c0 : W.cell? ⟨db, 0, none⟩ = some (.slice (some ⟨sb, 0, none⟩) (D.safe.length * 256) cs) := by rw [← HFL.out]; exact cell_blk HXW.out.cells
  have b0 : W.cell? ⟨w.heap.size, 0, none⟩ = some (.int .i64 n) := cell_blk HBX.out
  have b1 : W.cell? ⟨w.heap.size, 1, none⟩ = some (.slice (some a) 256 c) := cell_blk HBX.out
  have hm0 : ∀ m : Go.Reg.In (fun x => x = W.drew), m.w.cell? ⟨db, 0, none⟩ = some (.slice (some ⟨sb, 0, none⟩) (D.safe.length * 256) cs) := fun m => by rw [m.h]; exact c0
  have hm1 : ∀ m : Go.Reg.In (fun x => x = W.drew), m.w.cell? ⟨w.heap.size, 0, none⟩ = some (.int .i64 n) := fun m => by rw [m.h]; exact b0
  have hroom : D.safe.length * 256 ≤ cs := by have := HX.out.room; have := HFL.out; omega
  refine Go.Reg.region (fun x => x = W.drew) [.s, .s, .s, .s, .s, .s, .x, .p] (by kernel_rfl) (by kernel_rfl) rfl (fun ne => ?_)
  refine Go.Reg.lex_q 6 _ _ _ _ (by rfl) ?_; simp only [List.take_succ_cons, List.take_zero, List.drop_succ_cons, List.drop_zero]; (repeat (go_big_quiet_step (rfl))); refine wpQuiet_nil ?_
  refine Go.Reg.step_x (by rfl) (fun K hK => ?_)
  go_wp2_with fail
  refine (block_at sb D.safe.length cs n hn (by omega) hroom).mono ?_
  rintro e w1 ⟨rfl, rfl⟩
  go_wp2_with fail
  refine hK.out _ _ ?_
  clear hK K
  refine Go.Reg.lex_qp 1 _ _ _ _ _ (by rfl) ?_; simp only [List.take_succ_cons, List.take_zero, List.drop_succ_cons, List.drop_zero]; (repeat (go_big_quiet_step (rfl))); refine wpQuiet_nil ?_
  refine Go.Reg.lex_nil ?_
  go_wp2_with fail
  clear hm0 hm1
  obtain ⟨on, hon⟩ : ∃ on : Nat → Bool, on = onM mask := ⟨_, rfl⟩
  have HON := Aside0.mk (show ∀ k, on k = (Go.bits .and .i64 (mask / 2 ^ k) 1 == 1) from fun k => by rw [hon]; rfl)
  have HONE := Aside0.mk hon
  clear hon
  go_loopg [16, 7, 8] 4 (fun g v16 v7 v8 wr => ∃ (k : Nat), Aside0 (k + g = 4) ∧ v16 = .int .i64 k ∧ Aside0 (wr.heap[sb]? = some (.cells (u8s (D.safe.set n (tornTo on (D.safe[n]'hn) bs k)).flatten ++ sp).toArray 5 (0, 0))) ∧ Aside0 (Fr (fun k => k = sb) (fun _ _ => False) W wr))
  case atStart => exact ⟨0, ⟨by omega⟩, rfl, ⟨by rw [show tornTo on (D.safe[n]'hn) bs 0 = D.safe[n]'hn from rfl, List.set_getElem_self]; exact HXW.out.safe⟩, ⟨.of_below (below_drew1 (Below.refl _ _))⟩⟩
  case round =>
    obtain ⟨k, HK, rfl, HSB, HFR⟩ := hrel
    by_cases hk : k < 4
    · have hBW : w.heap.size < W.heap.size := (Array.getElem?_eq_some_iff.1 HBX.out).1
      have hsw : sb < w.heap.size := blk_lt HX.out.safe
      have b1 : wr.cell? ⟨w.heap.size, 1, none⟩ = some (.slice (some a) 256 c) := cell_blk ((HFR.out.block _ hBW (by omega) (fun _ _ _ _ h => h)).trans HBX.out)
      cases hb : on k with
      | false =>
        have hbit : (Go.bits .and .i64 (mask / 2 ^ k) 1 == 1) = false := by rw [← HON.out]; exact hb
        go_wp2_with fail
        go_roundg (gk - 1)
        case measure => have := HK.out; omega
        case rel => exact ⟨k + 1, ⟨by have := HK.out; omega⟩, by go_num, by rw [show tornTo on (D.safe[n]'hn) bs (k + 1) = tornTo on (D.safe[n]'hn) bs k by rw [tornTo, hb]; rfl]; exact HSB, HFR⟩
      | true =>
        have hbit : (Go.bits .and .i64 (mask / 2 ^ k) 1 == 1) = true := by rw [← HON.out]; exact hb
        go_wp2_with fail
        have hm1 : ∀ m : Go.Reg.In (fun x => x = wr.drew), m.w.cell? ⟨w.heap.size, 1, none⟩ = some (.slice (some a) 256 c) := fun m => by rw [m.h]; exact b1
        have q1 : (k : Int) * 64 ≤ (k : Int) * 64 + 64 := by omega
        have q2 : (k : Int) * 64 + 64 ≤ 256 := by omega
        have q3 : (0 : Int) ≤ (k : Int) * 64 := by omega
        have q4 : (k : Int) * 64 ≤ 256 := by omega
        refine Go.Reg.region (fun x => x = wr.drew) [.s, .s, .s, .s, .s, .s, .s, .s, .s, .x] (by kernel_rfl) (by kernel_rfl) rfl (fun ne => ?_)
        refine Go.Reg.lex_q 9 _ _ _ _ (by rfl) ?_; simp only [List.take_succ_cons, List.take_zero, List.drop_succ_cons, List.drop_zero]; (repeat (go_big_quiet_step (rfl))); refine wpQuiet_nil ?_
        have hgl : (D.safe.set n (tornTo on (D.safe[n]'hn) bs k)).flatten.length = D.safe.length * 256 := by
          rw [flat_len (fun b hb => ?_), List.length_set]
          rcases List.mem_or_eq_of_mem_set hb with h | h
          · exact HX.out.ok.len b h
          · rw [h]; exact tornTo_len on _ bs (HX.out.ok.len _ (List.getElem_mem hn)) hlen k (by omega)
        have hpl : ((bs.drop (64 * k)).take 64).length = 64 := by rw [List.length_take, List.length_drop]; omega
        have hlb := lay_block HX.out.ok.len n hn (tornTo on (D.safe[n]'hn) bs k) ((bs.drop (64 * k)).take 64) (tornTo_len on _ bs (HX.out.ok.len _ (List.getElem_mem hn)) hlen k (by omega)) (64 * k) (by rw [hpl]; omega)
        have hto : lay (tornTo on (D.safe[n]'hn) bs k) (64 * k) ((bs.drop (64 * k)).take 64) = tornTo on (D.safe[n]'hn) bs (k + 1) := by
          unfold lay
          rw [hpl, show tornTo on (D.safe[n]'hn) bs (k + 1) = (tornTo on (D.safe[n]'hn) bs k).take (64 * k) ++ ((bs.drop (64 * k)).take 64 ++ (tornTo on (D.safe[n]'hn) bs k).drop (64 * k + 64)) by rw [tornTo, hb]; rfl]
        rw [hto] at hlb
        have hCW : Kd.C (Kd.int .u8) wr.drew (some a) bs.length bs := HC.out _ (fun j hj hne => (HFR.out.block j (by omega) hne (fun _ _ _ _ h => h)).trans (HAL.out.block j hj))
        obtain ⟨w7, hcp, hs7, hf7⟩ := copy_in (w := wr.drew) (g := sb) (o := n * 256 + k * 64) (dl := k * 64 + 64 - k * 64) (dc := 256 - k * 64) (sl := 256 - k * 64) (sc := c - k * 64) (a.add (k * 64)) (D.safe.set n (tornTo on (D.safe[n]'hn) bs k)).flatten ((bs.drop (64 * k)).take 64) sp HSB.out (by rw [hgl, hpl]; omega) (by rw [hpl]; show 64 = min _ _; omega) (fun j hj => by
          rw [hpl] at hj
          obtain ⟨ad, e, hcell⟩ := Kd.at_int hCW ((k * 64 + j : Nat) : Int) (by omega) (by omega)
          cases e
          rw [Int.toNat_natCast] at hcell
          rw [Go.Deep.add_add, hcell]
          congr 2
          unfold rd
          rw [Int.toNat_natCast, List.getD_eq_getElem?_getD, List.getD_eq_getElem?_getD, List.getElem?_take_of_lt (by omega), List.getElem?_drop]
          rw [show 64 * k + j = k * 64 + j by omega])
        rw [show n * 256 + k * 64 = n * 256 + 64 * k by omega] at hs7
        rw [hlb] at hs7
        rw [hpl, show k * 64 + 64 - k * 64 = 64 by omega] at hcp
        have HS7 := Aside0.mk hs7
        have HF7 := Aside0.mk (HFR.out.trans ((Fr.of_below (below_drew1 (Below.refl _ _))).trans hf7))
        clear hs7 hf7 hlb hto hCW hgl hpl
        refine Go.Reg.step_x (by rfl) (fun K hK => ?_)
        go_wp2_with fail
        refine hK.out _ _ ?_
        clear hK K
        refine Go.Reg.lex_nil ?_
        go_wp2_with fail
        go_roundg (gk - 1)
        case measure => have := HK.out; omega
        case rel => exact ⟨k + 1, ⟨by have := HK.out; omega⟩, by go_num, HS7, HF7⟩
    · have hk4 : k = 4 := by have := HK.out; omega
      subst hk4
      go_wp2_with fail
      go_end0
      have hgl : (D.safe.set n (tornTo on (D.safe[n]'hn) bs 4)).flatten.length = D.safe.flatten.length := by
        have ho := (ok_set HX.out.ok n (tornTo on (D.safe[n]'hn) bs 4) (tornTo_len _ _ _ (HX.out.ok.len _ (List.getElem_mem hn)) hlen 4 (Nat.le_refl _)) (tornTo_byte _ _ _ (HX.out.ok.byte _ (List.getElem_mem hn)) HBY.out 4))
        rw [flat_len ho.len, HFL.out, List.length_set]
      have hfr := (Fr.of_below (bs := fun k => k = sb) (ts := fun _ _ => False) HAL.out).trans HFR.out
      refine ⟨⟨_, rfl⟩, ⟨vw, cs, sp, ?_⟩, hfr⟩
      rw [Int.toNat_natCast]
      have hto := tear_ok HX.out.ok n hn bs hlen HBY.out mask
      have hde : tearD D n bs mask = { D with safe := D.safe.set n (tornTo on (D.safe[n]'hn) bs 4) } := by
        unfold tearD
        rw [getD_get n hn, HONE.out]
      rw [hde] at hto ⊢
      refine ⟨hto, HX.out.dbase, HX.out.sbase, HX.out.wown, ?_, ?_, HSB.out, ?_⟩
      · show wr.heap[db]? = some (Obj.cells #[.slice (some ⟨sb, 0, none⟩) (D.safe.set n (tornTo on (D.safe[n]'hn) bs 4)).flatten.length cs, _, _, _, _, _, _] _ _)
        rw [hgl]
        exact (hfr.block db (blk_lt HX.out.cells) HX.out.ne (fun _ _ _ _ h => h)).trans HX.out.cells
      · exact Kd.R_step HX.out.waits (fun j hj hlt => hfr.block j hlt hj (fun _ _ _ _ h => h))
      · show (D.safe.set n (tornTo on (D.safe[n]'hn) bs 4)).flatten.length + sp.length = cs
        rw [hgl]
        exact HX.out.room
end Disk
end Go.Proofs.Ytopfjmeejpamjaa
end
section
namespace Go.Proofs.Ytopfjmeejpamjaa
set_option linter.unusedVariables false
set_option linter.unusedSimpArgs false
open Go.RowKit Go.Shelf
attribute [local go_sem] Oper.semAt_some
namespace Disk
open Go.Disk
structure Ent where
  i : Nat
  n : Int
  a : Option Addr
  l : Nat
  c : Nat
abbrev Ent.v (x : Ent) : Value := .slice x.a x.l x.c
def upto (f : Nat → Ent) (k : Nat) : List Ent := (List.range k).map f
theorem upto_succ (f : Nat → Ent) (k : Nat) : upto f (k + 1) = upto f k ++ [f k] := by simp [upto, List.range_succ]
theorem upto_length (f : Nat → Ent) (k : Nat) : (upto f k).length = k := by simp [upto]
set_option maxRecDepth 100000 in
set_option maxHeartbeats 2000000 in
theorem back1_in (F : Fence) (n : Nat) (h8 : F.fn 98) (hro : F.round = none) (hn : 1 ≤ n) (l Bs n₀ b len cap : Nat) (E : Nat → Ent) (hE : ∀ j, (E j).i = j) (hreach : len ≤ 1000000000) (hb : b < n₀) (J Jx : List Ent → World → Prop)
    (hY : ∀ pre x W, J pre W → pre.length < len → YieldAt F (n - 1) Try.prog l #[.int .i64 (x.i : Int), .agg #[.int .i64 x.n, x.v]] W fun e W' =>
      (e = .returned (.bool true) ∧ J (pre ++ [x]) W' ∧ Below n₀ W W') ∨ (e = .returned (.bool false) ∧ Jx (pre ++ [x]) W'))
    (W : World) (hBs : W.cell? ⟨Bs, 0, none⟩ = some (.slice (some ⟨b, 0, none⟩) len cap)) (hBk : ∀ W', Below n₀ W W' → W'.cell? ⟨Bs, 0, none⟩ = some (.slice (some ⟨b, 0, none⟩) len cap)) (hc : ∀ j, j < len → W.cell? ⟨b, j * 2, none⟩ = some (.int .i64 (E j).n) ∧ W.cell? ⟨b, j * 2 + 1, none⟩ = some (E j).v) (h0 : J [] W) :
    CallsIn F n Try.prog 98 #[.func (.yield l) #[] #[], .pointer (some ⟨Bs, 0, none⟩)] W fun e W' => (∃ v, e = .returned v) ∧
      ((∃ ys, ys = upto (fun j => E (len - 1 - j)) len ∧ J ys W') ∨ (∃ pre, (∃ k, k ≤ len ∧ pre = upto (fun j => E (len - 1 - j)) k) ∧ Jx pre W')) := by
  refine callsIn_of_wp Try.func98 rfl h8 ?_ hro
  simp only [Try.ntmps98, List.size_toArray, List.length_cons, List.length_nil, Nat.reduceAdd, Nat.reduceSub, Array.replicate_succ, Array.replicate_zero, List.push_toArray, List.append_toArray, List.nil_append, List.cons_append]
  gi_wp2
  gi_loopw [3] (fun i wr => ∃ k : Nat, k ≤ len ∧ i = .int .i64 ((len : Int) - 1 - k) ∧ J (upto (fun j => E (len - 1 - j)) k) wr ∧ Below n₀ W wr)
    (fun i _ => (intOf i + 1).toNat)
  case atStart => exact ⟨0, Nat.zero_le _, by simp, h0, Below.refl _ _⟩
  case round =>
    obtain ⟨k, hk, rfl, hJs, hnx⟩ := hrel
    have hBx := hBk wr hnx
    by_cases hlt : k < len
    · obtain ⟨m, hm⟩ : ∃ m : Nat, m = len - 1 - k := ⟨_, rfl⟩
      have hmi : (len : Int) - 1 - k = m := by omega
      have hml : m < len := by omega
      have c0 : wr.cell? ⟨b, m * 2, none⟩ = some (.int .i64 (E m).n) := (hnx.cell (p := ⟨b, m * 2, none⟩) hb).trans (hc m hml).1
      have c1 : wr.cell? ⟨b, m * 2 + 1, none⟩ = some (E m).v := (hnx.cell (p := ⟨b, m * 2 + 1, none⟩) hb).trans (hc m hml).2
      obtain ⟨fn, tmps, assign, body, hy, hR⟩ := hY _ (E m) wr hJs (by rw [upto_length]; exact hlt)
      rw [hE m] at hy
      have hfk : E m = E (len - 1 - k) := by rw [hm]
      obtain ⟨⟨xi, xn, xa, xl, xc⟩, hx⟩ : ∃ x, x = E m := ⟨_, rfl⟩
      rw [← hx] at c0 c1 hy hR hfk
      have HFK := Lib.hid hfk
      simp only [Ent.v] at hy c1
      rw [hmi]
      clear hm hx hfk
      gi_wp2
      refine hR.mono ?_
      rintro e W3 (⟨rfl, hJ3, hk3⟩ | ⟨rfl, hJx3⟩)
      · gi_wp2
        go_roundw
        case rel => exact ⟨k + 1, by omega, by simp; omega, by rw [upto_succ, ← HFK.out]; exact hJ3, hnx.trans hk3⟩
        case measure => first | (simp [intOf]; done) | (simp [intOf]; omega)
      · gi_wp2
        refine bodyPost_ret (results_none rfl _ _ _) rfl ?_
        exact ⟨⟨_, rfl⟩, .inr ⟨_, ⟨k + 1, by omega, by rw [upto_succ, HFK.out]⟩, hJx3⟩⟩
    · obtain rfl : k = len := by omega
      have hmi : (k : Int) - 1 - k = -1 := by omega
      rw [hmi]
      gi_wp2
      go_end0
      exact ⟨⟨_, rfl⟩, .inl ⟨_, rfl, hJs⟩⟩
set_option maxRecDepth 100000 in
set_option maxHeartbeats 1000000 in
theorem back1_nil_in (F : Fence) (n : Nat) (h8 : F.fn 98) (hro : F.round = none) (l Bs : Nat) (J : List Ent → World → Prop) (W : World) (hBs : W.cell? ⟨Bs, 0, none⟩ = some (.slice none 0 0)) (h0 : J [] W) :
    CallsIn F n Try.prog 98 #[.func (.yield l) #[] #[], .pointer (some ⟨Bs, 0, none⟩)] W fun e W' => (∃ v, e = .returned v) ∧ J [] W' := by
  refine callsIn_of_wp Try.func98 rfl h8 ?_ hro
  simp only [Try.ntmps98, List.size_toArray, List.length_cons, List.length_nil, Nat.reduceAdd, Nat.reduceSub, Array.replicate_succ, Array.replicate_zero, List.push_toArray, List.append_toArray, List.nil_append, List.cons_append]
  gi_wp2
  gi_loopw [3] (fun i wr => i = .int .i64 (-1) ∧ J [] wr) (fun _ _ => 0)
  case atStart => exact ⟨rfl, h0⟩
  case round =>
    obtain ⟨rfl, hJs⟩ := hrel
    gi_wp2
    go_end0
    exact ⟨⟨_, rfl⟩, hJs⟩
set_option maxRecDepth 100000 in
set_option maxHeartbeats 1000000 in
theorem back_in (F : Fence) (n : Nat) (h6 : F.fn 94) (hro : F.round = none) (a : Option Addr) (len cap : Nat) (w : World) :
    CallsIn F n Try.prog 94 #[.slice a len cap] w fun e w' => e = .returned (.func (.func 98) #[] #[.pointer (some ⟨w.heap.size, 0, none⟩)]) ∧ w' = w.alloc (.cells #[.slice a len cap] 82) := by
  refine callsIn_of_wp Try.func94 rfl h6 ?_ hro
  simp only [Try.ntmps94, List.size_toArray, List.length_cons, List.length_nil, Nat.reduceAdd, Nat.reduceSub, Array.replicate_succ, Array.replicate_zero, List.push_toArray, List.append_toArray, List.nil_append, List.cons_append]
  gi_wp2
  go_ret
  exact ⟨rfl, rfl⟩
def Ents (n₀ : Nat) (W : World) (sv : Value) (len : Nat) (E : Nat → Ent) : Prop :=
  (sv = .slice none 0 0 ∧ len = 0) ∨ ∃ b cap, sv = .slice (some ⟨b, 0, none⟩) len cap ∧ b < n₀ ∧ ∀ j, j < len → W.cell? ⟨b, j * 2, none⟩ = some (.int .i64 (E j).n) ∧ W.cell? ⟨b, j * 2 + 1, none⟩ = some (E j).v
theorem Ents.below {n₀ : Nat} {A B : World} (h : Below n₀ A B) {sv : Value} {len : Nat} {E : Nat → Ent} : Ents n₀ A sv len E → Ents n₀ B sv len E
  | .inl e => .inl e
  | .inr ⟨b, cap, e, hb, hc⟩ => .inr ⟨b, cap, e, hb, fun j hj => ⟨(h.cell (p := ⟨b, j * 2, none⟩) hb).trans (hc j hj).1, (h.cell (p := ⟨b, j * 2 + 1, none⟩) hb).trans (hc j hj).2⟩⟩
theorem back_stops (F : Fence) (n : Nat) (h8 : F.fn 98) (hro : F.round = none) (hn : 1 ≤ n) (Bs n₀ len : Nat) (sv : Value) (E : Nat → Ent) (hE : ∀ j, (E j).i = j) (hreach : len ≤ 1000000000) (w : World) (hBs : Bs < n₀) (hn₀ : n₀ ≤ w.heap.size)
    (hc : w.cell? ⟨Bs, 0, none⟩ = some sv) (hI : Ents n₀ w sv len E) :
    SeqStopsK F n Try.prog 98 #[.pointer (some ⟨Bs, 0, none⟩)] (fun x : Ent => #[Value.int .i64 (x.i : Int), .agg #[.int .i64 x.n, x.v]]) (Below n₀) (fun ys => ys = upto (fun j => E (len - 1 - j)) len)
      (fun pre => ∃ k, k ≤ len ∧ pre = upto (fun j => E (len - 1 - j)) k) len w := fun l J Jx W hW _ _ hY h0 => by
  have hW' := hW.mono hn₀
  have hc' := (hW'.cell (p := ⟨Bs, 0, none⟩) hBs).trans hc
  rcases hI.below hW' with ⟨rfl, rfl⟩ | ⟨b, cap, rfl, hb, hcs⟩
  · exact (back1_nil_in F n h8 hro l Bs J W hc' h0).mono fun e W' ⟨he, hj⟩ => ⟨he, .inl ⟨_, rfl, hj⟩⟩
  · exact back1_in F n h8 hro hn l Bs n₀ b len cap E hE hreach hb J Jx hY W hc' (fun W' h => (h.cell (p := ⟨Bs, 0, none⟩) hBs).trans hc') hcs h0
end Disk
end Go.Proofs.Ytopfjmeejpamjaa
namespace Go.Proofs.Ytopfjmeejpamjaa
set_option linter.unusedVariables false
set_option linter.unusedSimpArgs false
open Go.RowKit Go.Proofs.YtopfjmeejpamjaaW.PrintWords Go.Proofs.YtopfjmeejpamjaaW.PrintLast Go.Proofs.YtopfjmeejpamjaaW.PrintMore
namespace Disk
open Go.Disk PDiskDoes PSuper
theorem W_at {e : Nat} {w : World} {base sb : Nat} {vw : Value} {ws : List (Int × List Int)} (h : Kd.R kW e w base (fun k => k ≠ sb) vw ws) (j : Nat) (hj : j < ws.length) :
    ∃ g cap vb, vw = .slice (some ⟨g, 0, none⟩) ws.length cap ∧ w.cell? ⟨g, j * 2, none⟩ = some (.int .i64 (ws[j].1)) ∧ w.cell? ⟨g, j * 2 + 1, none⟩ = some vb ∧ Kd.R (Kd.int .u8) 5 w base (fun k => k ≠ sb) vb ws[j].2 ∧ g ≠ sb ∧ g < w.heap.size ∧ ws.length ≤ cap := by
  obtain ⟨h0, inner, ⟨hl, ho⟩, hr1, hr2⟩ := h
  have hm := hr2 j _ (List.getElem?_eq_getElem hj)
  obtain ⟨c0, c1, ee, hk0, vb, hk1, hR⟩ := hm
  rcases ho with ⟨_, hz⟩ | ⟨g, cap, cur, rfl, hbase, hb, hn, hmx, hcs, hcur⟩
  · omega
  · have hk0' : c0 = [.int .i64 ws[j].1] := hk0
    subst hk0' hk1
    have hcell : ∀ t, t < 2 → w.cell? ⟨g, j * 2 + t, none⟩ = ((inner.drop (j * 2)).take 2)[t]? := fun t ht => by
      have hsz : kW.sz = 2 := rfl
      rw [hsz] at hcur hcs hl
      rw [cell_blk hb, List.getElem?_take_of_lt ht, List.getElem?_drop, ← hcur, List.getElem?_take_of_lt (by omega), Array.getElem?_toList]
    have hsz : kW.sz = 2 := rfl
    rw [hsz] at ee
    rw [ee] at hcell
    have q0 := hcell 0 (by omega)
    have q1 := hcell 1 (by omega)
    simp at q0 q1
    refine ⟨g, cap, vb, rfl, q0, q1, Kd.R_mono hR (fun k hk => hk.1), ?_, blk_lt hb, hn⟩
    exact h0 g rfl
def crashTo : Dk → List (Int × List Int) → List Int → Dk
  | D, p :: ws, m :: ms => crashTo (tearD D p.1.toNat p.2 m) ws ms
  | D, _, _ => D
theorem crashTo_snoc : ∀ (ws : List (Int × List Int)) (ms : List Int) (D : Dk) (p : Int × List Int) (m : Int), ws.length = ms.length → crashTo D (ws ++ [p]) (ms ++ [m]) = tearD (crashTo D ws ms) p.1.toNat p.2 m
  | [], [], D, p, m, _ => rfl
  | q :: ws, n :: ms, D, p, m, h => by
    show crashTo (tearD D q.1.toNat q.2 n) (ws ++ [p]) (ms ++ [m]) = tearD (crashTo (tearD D q.1.toNat q.2 n) ws ms) p.1.toNat p.2 m
    exact crashTo_snoc ws ms _ p m (by simpa using h)
  | [], _ :: _, _, _, _, h => by simp at h
  | _ :: _, [], _, _, _, h => by simp at h
theorem crashTo_next (D : Dk) (ws : List (Int × List Int)) (ms : List Int) (i : Nat) (h1 : i < ws.length) (h2 : i < ms.length) : crashTo D (ws.take (i + 1)) (ms.take (i + 1)) = tearD (crashTo D (ws.take i) (ms.take i)) ws[i].1.toNat ws[i].2 ms[i] := by
  rw [List.take_succ_eq_append_getElem h1, List.take_succ_eq_append_getElem h2]
  exact crashTo_snoc _ _ _ _ _ (by rw [List.length_take, List.length_take]; omega)
theorem crashTo_all (D : Dk) : ∀ (ws : List (Int × List Int)) (ms : List Int) (n : Nat), n = min ws.length ms.length → crashTo D (ws.take n) (ms.take n) = crashTo D ws ms := by
  intro ws
  induction ws generalizing D with
  | nil => intro ms n h; simp [crashTo]
  | cons p ws ih =>
    intro ms n h
    cases ms with
    | nil => simp at h; subst h; rfl
    | cons m ms =>
      simp at h
      obtain ⟨k, rfl⟩ : ∃ k, n = k + 1 := ⟨n - 1, by omega⟩
      exact ih _ ms k (by omega)
theorem crashTo_safe : ∀ (ws : List (Int × List Int)) (ms : List Int) (D : Dk), (crashTo D ws ms).safe.length = D.safe.length ∧ (crashTo D ws ms).waits = D.waits
  | p :: ws, m :: ms, D => by
    have h := crashTo_safe ws ms (tearD D p.1.toNat p.2 m)
    refine ⟨h.1.trans ?_, h.2⟩
    show (D.safe.set _ _).length = _
    rw [List.length_set]
  | [], _, D => ⟨by cases ‹List Int› <;> rfl, by cases ‹List Int› <;> rfl⟩
  | _ :: _, [], D => ⟨rfl, rfl⟩
def crashD (D : Dk) (ms : List Int) : Dk := { crashTo D D.waits ms with waits := [], off := false, left := -1 }
theorem calm_ok {D : Dk} (h : Ok D) : Ok { D with waits := [], off := false, left := -1 } := ⟨h.few, h.len, h.byte, fun p hp => by simp at hp, by show (-1 : Int) ≤ -1; omega, by show (-1 : Int) ≤ 9223372036854775807; omega⟩
set_option maxHeartbeats 8000000 in
set_option maxRecDepth 100000 in
theorem crash_any {w : World} {base db sb : Nat} {D : Dk} (h : PD w base db sb D) (A : Option Addr) (c : Nat) (ms : List Int) (hC : Kd.C (Kd.int .i64) w A ms.length ms) (hc : ms.length ≤ c) (hCs : ∀ x, Fr (fun k => k = sb) (fun _ _ => False) w x → Kd.C (Kd.int .i64) x A ms.length ms) :
    Calls Try.prog 17 #[.pointer (some ⟨db, 0, none⟩), .slice A ms.length c] w fun e w' => (∃ v, e = .returned v) ∧ PD w' base db sb (crashD D ms) ∧ FP base db sb w w' := by
  have HPD := Aside0.mk h
  obtain ⟨vw, cs, sp, h⟩ := h
  have HX := Aside0.mk h
  have HC := Aside0.mk hCs
  obtain ⟨AW, cW, rfl, hcW, _⟩ := Kd.R_reads h.waits
  have c1 : w.cell? ⟨db, 1, none⟩ = some (.slice AW D.waits.length cW) := cell_blk h.cells
  have hmb : ms.length ≤ 9223372036854775807 := hC.2.1
  clear h hC hCs
  obtain ⟨n, hn⟩ : ∃ n, n = min D.waits.length ms.length := ⟨_, rfl⟩
  have HN := Aside0.mk hn
  clear hn
  go_enter Try.func17, Try.ntmps17
  go_wp2_with fail
  have hm1 : ∀ m : Go.Reg.In (fun x => x = w.drew), m.w.cell? ⟨db, 1, none⟩ = some (.slice AW D.waits.length cW) := fun m => by rw [m.h]; exact c1
  have hmin : ((min (D.waits.length : Int) (ms.length : Int)) : Int) = n := by have := HN.out; omega
  have q1 : (n : Int) ≤ cW := by have := HN.out; omega
  refine Go.Reg.region (fun x => x = w.drew) [.s, .s, .s, .s, .s, .s, .s, .s, .s, .s, .s, .s, .s, .s, .s] (by kernel_rfl) (by kernel_rfl) rfl (fun ne => ?_)
  refine Go.Reg.lex_q 15 _ _ _ _ (by rfl) ?_; simp only [List.take_succ_cons, List.take_zero, List.drop_succ_cons, List.drop_zero]; (repeat (go_big_quiet_step (rfl)))
  have hite : (if ms.length < D.waits.length then (ms.length : Int) else (D.waits.length : Int)) = (n : Int) := by
    have := HN.out
    split <;> omega
  have hmx : max (n : Int) 0 = n := by omega
  simp only [hite, Int.toNat_natCast, hmx]
  refine wpQuiet_nil ?_
  refine Go.Reg.lex_nil ?_
  go_wp2_with fail
  clear hm1 hite hmx hmin
  have HN1 := Aside0.mk (show n ≤ D.waits.length ∧ n ≤ ms.length by have := HN.out; omega)
  obtain ⟨W, hW⟩ : ∃ W, W = w.drew := ⟨_, rfl⟩
  rw [← hW]
  have HFW := Aside0.mk (show Fr (fun k => k = sb) (fun _ _ => False) w W by rw [hW]; exact .of_below (below_drew1 (Below.refl _ _)))
  have HPW := Aside0.mk (show PD W base db sb D by rw [hW]; exact HPD.out.below (below_drew1 (Below.refl _ _)))
  clear hW
  go_loopg [22, 4, 5] n (fun g v22 v4 v5 wr => ∃ (i : Nat), Aside0 (i + g = n) ∧ v22 = .int .i64 i ∧ Aside0 (PD wr base db sb (crashTo D (D.waits.take i) (ms.take i))) ∧ Aside0 (Fr (fun k => k = sb) (fun _ _ => False) w wr))
  case atStart => exact ⟨0, ⟨by omega⟩, rfl, by simpa [crashTo] using HPW, HFW⟩
  case round =>
    clear HPW HFW
    obtain ⟨i, HI, rfl, HP, HF⟩ := hrel
    have hws := (crashTo_safe (D.waits.take i) (ms.take i) D)
    have HWS := Aside0.mk hws
    clear hws
    by_cases hi : i < n
    · have hiw : i < D.waits.length := by have := HN1.out; omega
      have him : i < ms.length := by have := HN1.out; omega
      obtain ⟨g, cap, vb, hvw, hw0, hw1, hwr, hgs, hgl, _⟩ := W_at HX.out.waits i hiw
      cases hvw
      obtain ⟨ab, cb, hvb, hcb, _⟩ := Kd.R_reads hwr
      subst hvb
      have hat := HX.out.ok.at_ _ (List.getElem_mem hiw)
      obtain ⟨N, hN⟩ : ∃ N, N = D.waits[i].1 := ⟨_, rfl⟩
      obtain ⟨bs, hbs⟩ : ∃ bs, bs = D.waits[i].2 := ⟨_, rfl⟩
      rw [← hN, ← hbs] at hat
      rw [← hN] at hw0
      rw [← hbs] at hw1 hwr hcb
      have HNX := Aside0.mk (crashTo_next D D.waits ms i hiw him)
      rw [← hN, ← hbs] at HNX
      clear hN hbs
      have g0 : wr.cell? ⟨g, i * 2, none⟩ = some (.int .i64 N) := ((World.cell?_of_block (w := w) (HF.out.block g hgl hgs (fun _ _ _ _ h => h)))).trans hw0
      have g1 : wr.cell? ⟨g, i * 2 + 1, none⟩ = some (.slice ab bs.length cb) := ((World.cell?_of_block (w := w) (HF.out.block g hgl hgs (fun _ _ _ _ h => h)))).trans hw1
      have HWR := Aside0.mk hwr
      have HAT := Aside0.mk hat
      clear hw0 hw1 hwr hat
      obtain ⟨aw, haw, _⟩ := Kd.at_int (Kd.R_reads' HWR.out).2.2 0 (by omega) (by have := HAT.out.2.2.1; omega)
      subst haw
      go_wp2_with fail
      obtain ⟨V, hV⟩ : ∃ V, V = wr.alloc (.cells #[.int .i64 N, .slice (some aw) bs.length cb] 94) := ⟨_, rfl⟩
      have hal : Below wr.heap.size wr V := by rw [hV]; exact (Below.refl _ _).alloc (Nat.le_refl _) _
      have hbx : V.heap[wr.heap.size]? = some (.cells #[.int .i64 N, .slice (some aw) bs.length cb] 94 (0, 0)) := by rw [hV]; exact heap_alloc_new wr _
      rw [← hV]
      have HBX := Aside0.mk hbx
      have HAL := Aside0.mk hal
      clear hV hal hbx g0 g1
      have HFV := Aside0.mk (HF.out.trans ((Fr.of_below HAL.out).trans (Fr.of_below (below_drew1 (Below.refl V.heap.size V)))))
      obtain ⟨am, ham, hcm⟩ := Kd.at_int (HC.out _ HFV.out) (i : Int) (by omega) (by omega)
      subst ham
      rw [Int.toNat_natCast] at hcm
      obtain ⟨mk, hmk⟩ : ∃ mk, mk = rd ms i := ⟨_, rfl⟩
      have HMK := Aside0.mk (show mk = ms[i] by rw [hmk]; unfold rd; simp [him])
      rw [← hmk] at hcm
      clear hmk
      have hm0 : ∀ m : Go.Reg.In (fun x => x = V.drew), m.w.cell? ⟨wr.heap.size, 0, none⟩ = some (.int .i64 N) := fun m => by rw [m.h]; exact cell_blk (w := V) HBX.out
      have hm1 : ∀ m : Go.Reg.In (fun x => x = V.drew), m.w.cell? ⟨wr.heap.size, 1, none⟩ = some (.slice (some aw) bs.length cb) := fun m => by rw [m.h]; exact cell_blk (w := V) HBX.out
      have hm2 : ∀ m : Go.Reg.In (fun x => x = V.drew), m.w.cell? (am.add i) = some (.int .i64 mk) := fun m => by rw [m.h]; exact hcm
      refine Go.Reg.region (fun x => x = V.drew) [.s, .s, .s, .s, .s, .s, .x] (by kernel_rfl) (by kernel_rfl) rfl (fun ne => ?_)
      refine Go.Reg.lex_q 6 _ _ _ _ (by rfl) ?_; simp only [List.take_succ_cons, List.take_zero, List.drop_succ_cons, List.drop_zero]; (repeat (go_big_quiet_step (rfl))); refine wpQuiet_nil ?_
      refine Go.Reg.step_x (by rfl) (fun K hK => ?_)
      clear hm0 hm1 hm2 hcm
      go_wp2_with fail
      have hwl := HF.out.size
      refine (tear_any ((HP.out.below HAL.out).below (below_drew1 (Below.refl _ _))) N aw cb bs mk ?tN HAT.out.2.2.1 (by have := HAT.out.2.2.1; omega) ?tC HAT.out.2.2.2).mono ?_
      case tN => rw [HWS.out.1]; exact ⟨HAT.out.1, HAT.out.2.1⟩
      case tC => exact fun x hx => (Kd.R_reads' (Kd.R_step HWR.out (fun j hj hlt => (hx j (Nat.lt_of_lt_of_le hlt (Nat.le_trans hwl HAL.out.size)) hj).trans ((HAL.out.block j (by omega)).trans (HF.out.block j hlt hj (fun _ _ _ _ h => h)))))).2.2
      rintro e w5 ⟨⟨v5, rfl⟩, hp5, hf5⟩
      have HP5 := Aside0.mk hp5
      have HF5 := Aside0.mk (HFV.out.trans hf5)
      clear hp5 hf5
      go_wp2_with fail
      refine hK.out _ _ ?_
      clear hK K
      refine Go.Reg.lex_nil ?_
      have hnm := HN1.out.2
      go_wp2_with fail
      go_roundg (gk - 1)
      case measure => have := HI.out; omega
      case rel => exact ⟨i + 1, ⟨by have := HI.out; omega⟩, by go_num, ⟨by rw [HNX.out, ← HMK.out]; exact HP5.out⟩, HF5⟩
    · have hin : i = n := by have := HI.out; omega
      subst hin
      rw [crashTo_all D D.waits ms i HN.out] at HP
      obtain ⟨vw', cs', sp', hx⟩ := HP.out
      have c1 : wr.cell? ⟨db, 1, none⟩ = some vw' := cell_blk hx.cells
      have c2 : wr.cell? ⟨db, 2, none⟩ = some (.int .i64 (crashTo D D.waits ms).left) := cell_blk hx.cells
      have c3 : wr.cell? ⟨db, 3, none⟩ = some (.bool (crashTo D D.waits ms).off) := cell_blk hx.cells
      have f1 : wr.frozen? ⟨db, 1, none⟩ = false := frozen_blk hx.cells
      have f2 : wr.frozen? ⟨db, 2, none⟩ = false := frozen_blk hx.cells
      have f3 : wr.frozen? ⟨db, 3, none⟩ = false := frozen_blk hx.cells
      have HXX := Aside0.mk hx
      clear hx
      go_wp2_with fail
      go_end0
      have hx := HXX.out
      have hok := calm_ok hx.ok
      have hb3 := blk_set (blk_set (blk_set hx.cells 1 (.slice none 0 0)) 3 (.bool false)) 2 (.int .i64 (-1))
      have hne := hx.ne
      refine ⟨⟨_, rfl⟩, ⟨.slice none 0 0, cs', sp', hok, hx.dbase, hx.sbase, fun _ h => by simp [Value.ownBlock] at h, ?_, Kd.R_nil _ _ _ _ _, ?_, hx.room⟩, ?_⟩
      · rw [hb3]
        rfl
      · rw [Below.heap_setCell _ _ _ _ (Ne.symm hne), Below.heap_setCell _ _ _ _ (Ne.symm hne), Below.heap_setCell _ _ _ _ (Ne.symm hne)]
        exact hx.safe
      · exact (HF.out.mono (fun _ h => .inr h) (fun _ _ h => h.elim)).trans (((Fr.set _ _ _ _ (.inl rfl)).trans (Fr.set _ _ _ _ (.inl rfl))).trans (Fr.set _ _ _ _ (.inl rfl)))
end Disk
end Go.Proofs.Ytopfjmeejpamjaa
namespace Go.Proofs.Ytopfjmeejpamjaa
set_option linter.unusedVariables false
set_option linter.unusedSimpArgs false
open Go.RowKit Go.Shelf Go.Proofs.YtopfjmeejpamjaaW.PrintWords Go.Proofs.YtopfjmeejpamjaaW.PrintLast Go.Proofs.YtopfjmeejpamjaaW.PrintMore
attribute [local go_sem] Oper.semAt_some
namespace Disk
open Go.Disk
theorem cells_kept {W W' : World} {row : Option Nat} {B t : Nat} {cs : Array Value} (h : W.heap[B]? = some (.cells cs t (0, 0))) (hg : W.grownBy W' row) (hr : ∀ r, row = some r → ∃ o : Obj, W.heap[r]? = some o ∧ o.isCells = false) : W'.heap[B]? = some (.cells cs t (0, 0)) :=
  (hg.block B (blk_lt h) (fun e => by obtain ⟨o, ho, hc⟩ := hr B e.symm; rw [h] at ho; cases ho; cases hc)).trans h
set_option maxRecDepth 100000 in
set_option maxHeartbeats 4000000 in
theorem now_v {w : World} {base db sb : Nat} {D : Dk} {vw : Value} {cs : Nat} {sp : List Value} (h : PDx w base db sb D vw cs sp) (N : Nat) (hN : N < D.safe.length) (E : Nat → Ent) (hE : ∀ j, (E j).i = j) (len : Nat) (hreach : len ≤ 1000000000) (hI : Ents w.heap.size w vw len E) :
    Calls Try.prog 78 #[.pointer (some ⟨db, 0, none⟩), .int .i64 N] w fun e W' =>
      ((∃ j, j < len ∧ (E j).n = N ∧ (∀ i, j < i → i < len → (E i).n ≠ N) ∧ e = .returned (E j).v) ∨ ((∀ j, j < len → (E j).n ≠ N) ∧ e = .returned (.slice (some ⟨sb, N * 256, none⟩) 256 256))) ∧ Below w.heap.size w W' := by
  refine (callsIn_wide (n := 4)).1 ?_
  obtain ⟨A, L, C, hvw⟩ : ∃ A L C, vw = .slice A L C := by
    rcases hI with ⟨rfl, _⟩ | ⟨b, cap, rfl, _⟩
    · exact ⟨_, _, _, rfl⟩
    · exact ⟨_, _, _, rfl⟩
  subst hvw
  have HX := Aside0.mk h
  have c1 : w.cell? ⟨db, 1, none⟩ = some (.slice A L C) := cell_blk h.cells
  have hdb : db < w.heap.size := blk_lt h.cells
  have hro : Fence.wide.round = none := rfl
  have hf1 : Fence.wide.fn 94 := trivial
  have hf2 : Fence.wide.fn 98 := trivial
  have h1 : 1 ≤ 4 := by omega
  clear h
  refine callsIn_of_wp_marks Try.func78 rfl trivial ?_ hro
  simp only [Try.ntmps78, List.size_toArray, List.length_cons, List.length_nil, Nat.reduceAdd, Nat.reduceSub, Array.replicate_succ, Array.replicate_zero, List.push_toArray, List.append_toArray, List.nil_append, List.cons_append]
  gi_wp2_with (gi_at_call 94; refine (back_in Fence.wide _ trivial hro _ _ _ _).mono ?_; rintro e w' ⟨rfl, rfl⟩)
  have bN := Boxed.new w 3 (.int .i64 N)
  have bR := Boxed.new (w.alloc (.cells #[.int .i64 N] 3)) 26 (.slice none 0 0)
  have bS := Boxed.new ((w.alloc (.cells #[.int .i64 N] 3)).alloc (.cells #[.slice none 0 0] 26)) 82 (.slice A L C)
  rw [World.size_alloc] at bR
  rw [World.size_alloc, World.size_alloc] at bS
  obtain ⟨W0, hW0⟩ : ∃ W0, W0 = ((w.alloc (.cells #[.int .i64 N] 3)).alloc (.cells #[.slice none 0 0] 26)).alloc (.cells #[.slice A L C] 82) := ⟨_, rfl⟩
  have hs0 : W0.heap.size = w.heap.size + 1 + 1 + 1 := by rw [hW0]; simp
  have hB0 : Below w.heap.size w W0 := by rw [hW0]; exact (((Below.refl _ w).alloc (Nat.le_refl _) _).alloc (by simp) _).alloc (by simp; omega) _
  replace bN := (bN.alloc (.cells #[.slice none 0 0] 26)).alloc (.cells #[.slice A L C] 82)
  replace bR := bR.alloc (.cells #[.slice A L C] 82)
  rw [← hW0] at bN bR bS
  rw [← hW0]
  clear hW0
  refine wpIn_rangeFunc_ownH hro h1 (gf := 98) (lb := #[.pointer (some ⟨w.heap.size + 1 + 1, 0, none⟩)]) rfl hf2 (enters_of Try.func98 (by kernel_rfl) rfl)
    (back_stops Fence.wide 3 hf2 hro (by omega) (w.heap.size + 1 + 1) (w.heap.size + 1 + 1 + 1) len _ E hE hreach W0 (by omega) (by omega) bS.cell ?ents) belowK_t (belowK_b (by omega)) (Below.refl _ _) (fun _ => rfl)
    (fun (pre : List Ent) W => ((∀ y ∈ pre, y.n ≠ N) ∧ Boxed W w.heap.size 3 (.int .i64 N) ∧ Boxed W (w.heap.size + 1) 26 (.slice none 0 0) ∧ W0.heap.size ≤ W.heap.size) ∧ Below w.heap.size w W)
    (fun c pre W => (c = .ret ∧ ∃ (ini : List Ent) (last : Ent), pre = ini ++ [last] ∧ (∀ y ∈ ini, y.n ≠ N) ∧ last.n = N ∧ Boxed W (w.heap.size + 1) 26 last.v) ∧ Below w.heap.size w W)
    ?hI ?hIx ⟨⟨by simp, bN, bR, Nat.le_refl _⟩, hB0⟩
    (fun x a' W => ∃ Bx, w.heap.size + 1 + 1 < Bx ∧ Bx < W.heap.size ∧ W.heap[Bx]? = some (.cells #[.int .i64 x.n, x.v] 94 (0, 0)) ∧ a' = { tmps := #[.pointer (some ⟨db, 0, none⟩), .int .i64 N, undef, .pointer (some ⟨w.heap.size, 0, none⟩), .pointer (some ⟨w.heap.size + 1, 0, none⟩), undef, .pointer (some ⟨Bx, 0, none⟩), .pointer (some ⟨db, 0, none⟩), .pointer (some ⟨db, 0, none⟩), .pointer (some ⟨db, 1, none⟩), .slice A L C, .func (.func 98) #[] #[.pointer (some ⟨w.heap.size + 1 + 1, 0, none⟩)], .int .i64 (x.i : Int), .agg #[.int .i64 x.n, x.v], undef, undef, undef, undef, undef, undef, undef, undef, undef, undef, undef, undef], defers := [] })
    ?hAx ?assign ?body ?done ?stop
  case ents =>
    have h2 : Ents w.heap.size W0 (.slice A L C) len E := hI.below hB0
    rcases h2 with h2 | ⟨b, cap, h3, h4, h5⟩
    · exact .inl h2
    · exact .inr ⟨b, cap, h3, by omega, h5⟩
  case hI => exact OwnFrom.and (Own.from (fun s X Y row hs hg hr => ⟨hs.1, cells_kept hs.2.1 hg hr, cells_kept hs.2.2.1 hg hr, Nat.le_trans hs.2.2.2 hg.size⟩) _) (ownFrom_below (Nat.le_refl _) (by omega))
  case hIx => exact fun c => OwnFrom.and (Own.from (fun s X Y row hs hg hr => by obtain ⟨hc, ini, last, e1, e2, e3, e4⟩ := hs; exact ⟨hc, ini, last, e1, e2, e3, cells_kept e4 hg hr⟩) _) (ownFrom_below (Nat.le_refl _) (by omega))
  case hAx => exact fun x a' _ X Y row hs hg hr => by obtain ⟨Bx, h1, h2, h3, h4⟩ := hs; exact ⟨Bx, h1, Nat.lt_of_lt_of_le h2 hg.size, cells_kept h3 hg (fun r e => (hr r e).2), h4⟩
  case assign =>
    rintro l pre x W K ⟨⟨hp, b1, b2, hsz⟩, hB⟩ hK
    gi_wp2
    exact hK _ _ ((KeepsOthers.alloc _ _).from _) ((Below.refl _ W).alloc (by omega) _) ⟨⟨hp, b1.alloc _, b2.alloc _, by simp; omega⟩, hB.alloc hB.size _⟩ ⟨W.heap.size, by omega, by simp, heap_alloc_new W _, rfl⟩
  case body =>
    rintro l pre x a' W hl ⟨r, hr⟩ ⟨⟨hp, b1, b2, hsz⟩, hB⟩ ⟨Bx, hBx, hBl, bX, rfl⟩ hlt
    obtain ⟨xi, xn, xa, xl, xc⟩ := x
    have x0 : W.cell? ⟨Bx, 0, none⟩ = some (.int .i64 xn) := cell_blk bX
    have x1 : W.cell? ⟨Bx, 1, none⟩ = some (.slice xa xl xc) := cell_blk bX
    have cN := b1.cell
    have cR := b2.cell
    have fR := b2.frozen
    by_cases hx : xn = N
    · subst hx
      gi_wp2
      exact ⟨(KeepsOthers.setCell _ _ _).from _, ⟨rfl, pre, ⟨xi, N, xa, xl, xc⟩, rfl, hp, rfl, blk_set b2 0 (.slice xa xl xc)⟩, hB.setCell (p := ⟨w.heap.size + 1, 0, none⟩) (by simp) _⟩
    · have hxb : (xn == (N : Int)) = false := by simpa using hx
      gi_wp2
      exact ⟨KeepsFrom.refl _ _, Below.refl _ _, ⟨fun y hy => (List.mem_append.1 hy).elim (hp y) (fun e => by simp at e; subst e; exact hx), b1, b2, by omega⟩, hB⟩
  case done =>
    rintro D' ys W hD rfl ⟨⟨hp, b1, b2, hsz⟩, hB⟩ hK
    have cN := b1.cell
    have cR := b2.cell
    have fR := b2.frozen
    have hx := HX.out.below hB
    have d0 : W.cell? ⟨db, 0, none⟩ = some (.slice (some ⟨sb, 0, none⟩) (D.safe.length * 256) cs) := by rw [← flatLen hx.ok]; exact cell_blk hx.cells
    have hroom : D.safe.length * 256 ≤ cs := by have := hx.room; have := flatLen hx.ok; omega
    have hfew := hx.ok.few
    have HP := Aside0.mk hp
    clear hx hp
    gi_wp2
    refine wpIn_wide.2 ?_
    have m0 : ∀ m : Go.Reg.In (fun x => x = W.drew), m.w.cell? ⟨db, 0, none⟩ = some (.slice (some ⟨sb, 0, none⟩) (D.safe.length * 256) cs) := fun m => by rw [m.h]; exact d0
    have m1 : ∀ m : Go.Reg.In (fun x => x = W.drew), m.w.cell? ⟨w.heap.size, 0, none⟩ = some (.int .i64 N) := fun m => by rw [m.h]; exact cN
    refine Go.Reg.region (fun x => x = W.drew) [.s, .s, .s, .s, .s, .x, .x] (by kernel_rfl) (by kernel_rfl) rfl (fun ne => ?_)
    refine Go.Reg.lex_q 5 _ _ _ _ (by rfl) ?_; simp only [List.take_succ_cons, List.take_zero, List.drop_succ_cons, List.drop_zero]; (repeat (go_big_quiet_step (rfl))); refine wpQuiet_nil ?_
    refine Go.Reg.step_x (by rfl) (fun K hKK => ?_)
    go_wp2_with fail
    refine (block_at sb D.safe.length cs N hN (by omega) hroom).mono ?_
    rintro e w1 ⟨rfl, rfl⟩
    go_wp2_with fail
    refine hKK.out _ _ ?_
    clear hKK K
    refine Go.Reg.step_x (by rfl) (fun K hKK => ?_)
    go_wp2_with fail
    refine hKK.out _ _ ?_
    clear hKK K
    refine Go.Reg.lex_nil ?_
    gi_wp2
    obtain ⟨V, hV⟩ : ∃ V, V = (W.setCell ⟨w.heap.size + 1, 0, none⟩ (.slice (some ⟨sb, N * 256, none⟩) 256 256)).drew := ⟨_, rfl⟩
    have hK' : V.heap[D']? = some (.deferred (some [])) := by rw [hV]; exact (KeepsOthers.setCell W ⟨w.heap.size + 1, 0, none⟩ (.slice (some ⟨sb, N * 256, none⟩) 256 256)).same D' _ hK rfl
    have hv : V.heap[w.heap.size + 1]? = some (.cells #[.slice (some ⟨sb, N * 256, none⟩) 256 256] 26 (0, 0)) := by rw [hV]; exact blk_set b2 0 _
    have hBV : Below w.heap.size w V := by rw [hV]; exact below_drew1 (hB.setCell (p := ⟨w.heap.size + 1, 0, none⟩) (by simp) _)
    rw [← hV]
    refine ⟨by simp, .inl ⟨_, _, rfl, run_takeDeferred hK', ?_⟩⟩
    have hc5 := cell_kept (show V.cell? ⟨w.heap.size + 1, 0, none⟩ = some (.slice (some ⟨sb, N * 256, none⟩) 256 256) from cell_blk hv) (grownBy_putObj' _ D' (.deferred none)) (fun r e => by cases e; exact ⟨_, hK', rfl⟩)
    refine ⟨.slice (some ⟨sb, N * 256, none⟩) 256 256, ?_, .inr ⟨fun j hj => ?_, rfl⟩, hBV.trans (belowK_b (w := w) (Nat.le_refl _) V D' _ _ (by omega) hK' rfl rfl)⟩
    · simp [results, Try.f78, go_sem, hc5]
    · have h1 := HP.out (E j) (by
        simp only [upto, List.mem_map, List.mem_range]
        exact ⟨len - 1 - j, by omega, by rw [show len - 1 - (len - 1 - j) = j by omega]⟩)
      exact h1
  case stop =>
    rintro D' c pre W hD ⟨k, hk, rfl⟩ ⟨⟨rfl, ini, last, e1, e2, e3, b2⟩, hB⟩ hK
    gi_wp2
    refine ⟨by simp, .inl ⟨_, _, rfl, run_takeDeferred hK, ?_⟩⟩
    obtain ⟨k', rfl⟩ : ∃ k', k = k' + 1 := by
      cases k with
      | zero => simp [upto] at e1
      | succ k' => exact ⟨k', rfl⟩
    rw [upto_succ] at e1
    obtain ⟨h5, h6⟩ := List.append_inj' e1 rfl
    obtain rfl : E (len - 1 - k') = last := by simpa using h6
    subst h5
    have hc5 := cell_kept b2.cell (grownBy_putObj' _ D' (.deferred none)) (fun r e => by cases e; exact ⟨_, hK, rfl⟩)
    refine ⟨(E (len - 1 - k')).v, ?_, .inl ⟨len - 1 - k', by omega, e3, fun i hi1 hi2 => ?_, rfl⟩, hB.trans (belowK_b (w := w) (Nat.le_refl _) W D' _ _ (by omega) hK rfl rfl)⟩
    · simp [results, Try.f78, go_sem, hc5]
    · exact e2 (E i) (by
        simp only [upto, List.mem_map, List.mem_range]
        exact ⟨len - 1 - i, by omega, by rw [show len - 1 - (len - 1 - i) = i by omega]⟩)
end Disk
end Go.Proofs.Ytopfjmeejpamjaa
namespace Go.Proofs.Ytopfjmeejpamjaa
set_option linter.unusedVariables false
set_option linter.unusedSimpArgs false
open Go.RowKit Go.Proofs.YtopfjmeejpamjaaW.PrintWords Go.Proofs.YtopfjmeejpamjaaW.PrintLast Go.Proofs.YtopfjmeejpamjaaW.PrintMore
namespace Disk
open Go.Disk PDiskDoes PSuper
def lastW : List (Int × List Int) → Int → Option (List Int)
  | [], _ => none
  | p :: ws, n => match lastW ws n with
    | some b => some b
    | none => if p.1 = n then some p.2 else none
theorem lastW_none : ∀ (ws : List (Int × List Int)) (n : Int), (∀ j (h : j < ws.length), ws[j].1 ≠ n) → lastW ws n = none
  | [], _, _ => rfl
  | p :: ws, n, h => by
    have h1 := lastW_none ws n (fun j hj => h (j + 1) (by simpa using hj))
    have h2 := h 0 (by simp)
    unfold lastW
    rw [h1]
    exact if_neg h2
theorem lastW_hit : ∀ (ws : List (Int × List Int)) (n : Int) (j : Nat) (hj : j < ws.length), ws[j].1 = n → (∀ i (h : i < ws.length), j < i → ws[i].1 ≠ n) → lastW ws n = some ws[j].2
  | p :: ws, n, 0, _, h, hl => by
    have h1 := lastW_none ws n (fun i hi => hl (i + 1) (by simpa using hi) (by omega))
    unfold lastW
    rw [h1]
    exact if_pos h
  | p :: ws, n, j + 1, hj, h, hl => by
    have h1 := lastW_hit ws n j (by simpa using hj) h (fun i hi hji => hl (i + 1) (by simpa using hi) (by omega))
    unfold lastW
    rw [h1]
    rfl
def nowD (D : Dk) (n : Int) : List Int := (lastW D.waits n).getD (D.safe.getD n.toNat [])
theorem safe_C {w : World} {base db sb cs : Nat} {D : Dk} {vw : Value} {sp : List Value} (h : PDx w base db sb D vw cs sp) (n : Nat) (hn : n < D.safe.length) : Kd.C (Kd.int .u8) w (some ⟨sb, n * 256, none⟩) 256 D.safe[n] := by
  have hl := h.ok.len _ (List.getElem_mem hn)
  have hb := flat_block h.ok.len n hn
  refine ⟨hl, by omega, fun _ => ⟨_, rfl, fun j p hj => ⟨[.int .u8 p], rfl, rfl, fun i u hu => ?_⟩⟩⟩
  have hjl : j < 256 := by
    rcases Nat.lt_or_ge j 256 with h' | h'
    · exact h'
    · rw [List.getElem?_eq_none (by omega)] at hj; cases hj
  have hi : i = 0 := by
    rcases Nat.eq_zero_or_pos i with h' | h'
    · exact h'
    · rw [List.getElem?_eq_none (by simp; omega)] at hu; cases hu
  subst hi
  simp at hu
  subst hu
  have hadd : (⟨sb, n * 256, none⟩ : Addr).add (j * (Kd.int .u8).sz + 0) = ⟨sb, n * 256 + j, none⟩ := by
    rw [show j * (Kd.int .u8).sz + 0 = j from by show j * 1 + 0 = j; omega]
    unfold Addr.add
    split <;> simp_all
  rw [hadd, cell_blk h.safe]
  rw [← hb, List.getElem?_take_of_lt hjl, List.getElem?_drop] at hj
  have hlt : n * 256 + j < D.safe.flatten.length := by
    rcases Nat.lt_or_ge (n * 256 + j) D.safe.flatten.length with h' | h'
    · exact h'
    · rw [List.getElem?_eq_none h'] at hj; cases hj
  rw [List.getElem?_toArray, List.getElem?_append_left (by rw [u8s_len]; exact hlt)]
  unfold u8s
  rw [List.getElem?_map, hj]
  rfl
theorem now_any {w : World} {base db sb : Nat} {D : Dk} (h : PD w base db sb D) (N : Int) (hN : 0 ≤ N ∧ N < D.safe.length) (hfew : D.waits.length ≤ 1000000000) :
    Calls Try.prog 78 #[.pointer (some ⟨db, 0, none⟩), .int .i64 N] w fun e W' => ∃ a c, e = .returned (.slice (some a) 256 c) ∧ 256 ≤ c ∧ Kd.C (Kd.int .u8) W' (some a) 256 (nowD D N) ∧ Below w.heap.size w W' := by
  obtain ⟨vw, cs, sp, h⟩ := h
  obtain ⟨n, rfl⟩ : ∃ n : Nat, N = n := ⟨N.toNat, by omega⟩
  have hn : n < D.safe.length := by omega
  have hrow := h.waits
  have hall : ∀ j, ∃ x : Ent, x.i = j ∧ ∀ hj : j < D.waits.length, ∃ g, x.n = D.waits[j].1 ∧ (∃ cap, vw = .slice (some ⟨g, 0, none⟩) D.waits.length cap) ∧ g < w.heap.size ∧ w.cell? ⟨g, j * 2, none⟩ = some (.int .i64 x.n) ∧ w.cell? ⟨g, j * 2 + 1, none⟩ = some x.v ∧ Kd.R (Kd.int .u8) 5 w 0 (fun k => k ≠ sb) x.v D.waits[j].2 := by
    intro j
    by_cases hj : j < D.waits.length
    · obtain ⟨g, cap, vb, hv, c0, c1, hr, _, hg, _⟩ := W_at hrow j hj
      obtain ⟨A, c, rfl⟩ := Kd.R_slice hr
      exact ⟨⟨j, D.waits[j].1, A, D.waits[j].2.length, c⟩, rfl, fun _ => ⟨g, rfl, ⟨cap, hv⟩, hg, c0, c1, hr⟩⟩
    · exact ⟨⟨j, 0, none, 0, 0⟩, rfl, fun h' => absurd h' hj⟩
  obtain ⟨E, hE⟩ := Classical.axiomOfChoice hall
  have hI : Ents w.heap.size w vw D.waits.length E := by
    by_cases hz : D.waits.length = 0
    · obtain ⟨h0, inner, ⟨hl, ho⟩, hr1, hr2⟩ := hrow
      rcases ho with ⟨hv, _⟩ | ⟨g, cap, cur, hv, _, hb, _⟩
      · exact .inl ⟨hv, hz⟩
      · exact .inr ⟨g, cap, hv, blk_lt hb, fun j hj => by omega⟩
    · obtain ⟨g0, _, ⟨cap, hv⟩, hg, _⟩ := (hE 0).2 (by omega)
      refine .inr ⟨g0, cap, hv, hg, fun j hj => ?_⟩
      obtain ⟨g, _, ⟨cap', hv'⟩, _, c0, c1, _⟩ := (hE j).2 hj
      rw [hv] at hv'
      cases hv'
      exact ⟨c0, c1⟩
  refine (now_v h n hn E (fun j => (hE j).1) D.waits.length hfew hI).mono ?_
  rintro e W' ⟨⟨j, hj, hjn, hjl, rfl⟩ | ⟨hno, rfl⟩, hB⟩
  · obtain ⟨g, en, _, _, _, _, hr⟩ := (hE j).2 hj
    obtain ⟨h1, h2, h3⟩ := Kd.R_reads' (Kd.R_below hr hB)
    have hlen := (h.ok.at_ _ (List.getElem_mem hj)).2.2.1
    have hnow : nowD D (n : Int) = D.waits[j].2 := by
      unfold nowD
      rw [lastW_hit D.waits n j hj (by rw [← en]; exact hjn) (fun i hi hji => by rw [← ((hE i).2 hi).choose_spec.1]; exact hjl i hji hi)]
      rfl
    obtain ⟨a, ha, _⟩ := Kd.at_int h3 0 (by omega) (by omega)
    rw [hlen] at h3
    refine ⟨a, (E j).c, ?_, by omega, ?_, hB⟩
    · unfold Ent.v
      rw [ha, h1, hlen]
    · rw [hnow, ← ha]
      exact h3
  · have hnow : nowD D (n : Int) = D.safe[n] := by
      unfold nowD
      rw [lastW_none D.waits n (fun j hj => by rw [← ((hE j).2 hj).choose_spec.1]; exact hno j hj)]
      simp [hn]
    refine ⟨⟨sb, n * 256, none⟩, 256, rfl, Nat.le_refl _, ?_, hB⟩
    rw [hnow]
    exact safe_C (h.below hB) n hn
def readD (D : Dk) : Dk := { D with reads := wrap64 (D.reads + 1) }
theorem cnt_ok {D D' : Dk} (h : Ok D) (h1 : D'.safe = D.safe) (h2 : D'.waits = D.waits) (h3 : D'.left = D.left) : Ok D' := ⟨by rw [h1]; exact h.few, by rw [h1]; exact h.len, by rw [h1]; exact h.byte, by rw [h1, h2]; exact h.at_, by rw [h3]; exact h.left⟩
theorem lastW_mem : ∀ (ws : List (Int × List Int)) (n : Int) (b : List Int), lastW ws n = some b → ∃ p ∈ ws, p.1 = n ∧ p.2 = b
  | p :: ws, n, b, h => by
    unfold lastW at h
    split at h
    · rename_i c hc
      obtain ⟨q, h1, h2⟩ := lastW_mem ws n c hc
      cases h
      exact ⟨q, List.mem_cons_of_mem _ h1, h2⟩
    · split at h
      · rename_i h1
        cases h
        exact ⟨p, List.mem_cons_self, h1, rfl⟩
      · cases h
theorem now_len {D : Dk} (h : Ok D) (n : Int) (hn : 0 ≤ n ∧ n < D.safe.length) : (nowD D n).length = 256 ∧ ∀ x ∈ nowD D n, 0 ≤ x ∧ x ≤ 255 := by
  unfold nowD
  cases hl : lastW D.waits n with
  | some b =>
    obtain ⟨p, h1, h2, rfl⟩ := lastW_mem _ _ _ hl
    exact (h.at_ p h1).2.2
  | none =>
    have hlt : n.toNat < D.safe.length := by omega
    have e : (none : Option (List Int)).getD (D.safe.getD n.toNat []) = D.safe[n.toNat] := by simp [hlt]
    rw [e]
    exact ⟨h.len _ (List.getElem_mem hlt), h.byte _ (List.getElem_mem hlt)⟩
set_option maxHeartbeats 8000000 in
set_option maxRecDepth 100000 in
theorem read_no {w : World} {base db sb : Nat} {D : Dk} (h : PD w base db sb D) (N : Int) (hr : ready D N ≠ 0) :
    Calls Try.prog 39 #[.pointer (some ⟨db, 0, none⟩), .int .i64 N] w fun e w' => e = .returned (.tuple #[.slice none 0 0, .int .i64 (ready D N)]) ∧ w' = w := by
  obtain ⟨r, hrr⟩ : ∃ r, r = ready D N := ⟨_, rfl⟩
  rw [← hrr] at hr ⊢
  have HR := Aside0.mk hrr
  clear hrr
  have hb : (r != 0) = true := by simpa using hr
  go_enter Try.func39, Try.ntmps39
  go_wp2_with fail
  refine (ready_any N h).mono ?_
  rintro e w1 ⟨rfl, rfl⟩
  rw [← HR.out]
  go_wp2_with fail
  go_ret2
  exact ⟨rfl, rfl⟩
set_option maxHeartbeats 8000000 in
set_option maxRecDepth 100000 in
theorem read_yes {w : World} {base db sb : Nat} {D : Dk} (h : PD w base db sb D) (N : Int) (hr : ready D N = 0) (hfew : D.waits.length ≤ 1000000000) :
    Calls Try.prog 39 #[.pointer (some ⟨db, 0, none⟩), .int .i64 N] w fun e w' => ∃ v, e = .returned (.tuple #[v, .int .i64 0]) ∧ Kd.R (Kd.int .u8) 5 w' w.heap.size (fun _ => True) v (nowD D N) ∧ PD w' base db sb (readD D) ∧ FP base db sb w w' := by
  have hN : 0 ≤ N ∧ N < D.safe.length := by
    unfold ready at hr
    split at hr
    · omega
    · split at hr
      · omega
      · omega
  have HNL := Aside0.mk (now_len h.ok N hN)
  have HP := Aside0.mk h
  have HR := Aside0.mk hr
  obtain ⟨vw, cs, sp, hx⟩ := h
  have c4 : w.cell? ⟨db, 4, none⟩ = some (.int .i64 D.reads) := cell_blk hx.cells
  have f4 : w.frozen? ⟨db, 4, none⟩ = false := frozen_blk hx.cells
  have HX := Aside0.mk hx
  clear hx hr
  go_enter Try.func39, Try.ntmps39
  go_wp2_with fail
  refine (ready_any N HP.out).mono ?_
  rintro e w1 ⟨rfl, rfl⟩
  rw [HR.out]
  go_wp2_with fail
  refine (add_at _ db 4 D.reads 1 c4 f4).mono ?_
  rintro e w2 ⟨rfl, hw2⟩
  have hp2 : PD w2 base db sb (readD D) := ⟨vw, cs, sp, by rw [hw2]; exact HX.out.put 4 _ (D' := readD D) (cnt_ok HX.out.ok rfl rfl rfl) rfl rfl rfl⟩
  have hf2 : FP base db sb w1 w2 := by rw [hw2]; exact .set _ _ _ _ (.inl rfl)
  have HP2 := Aside0.mk hp2
  have HF2 := Aside0.mk hf2
  have hs2 : w1.heap.size ≤ w2.heap.size := hf2.size
  clear hw2 hp2 hf2 c4 f4
  go_wp2_with fail
  refine (now_any HP2.out N hN hfew).mono ?_
  rintro e w3 ⟨a, c, rfl, hc, hC, hB⟩
  have HC3 := Aside0.mk hC
  have HB3 := Aside0.mk hB
  have hs3 : w2.heap.size ≤ w3.heap.size := hB.size
  clear hC hB
  go_wp2_with fail
  have hnl := HNL.out.1
  have hC4 := HC3.out
  rw [show nowD (readD D) N = nowD D N from rfl, ← hnl] at hC4
  have hcl := clone8 (w := w3) a c (nowD D N) hC4 (by omega)
  rw [hnl] at hcl
  refine hcl.mono ?_
  rintro e w4 ⟨v, rfl, hr4, _, hb4⟩
  have HR4 := Aside0.mk hr4
  have HB4 := Aside0.mk hb4
  clear hr4 hb4 hC4 hcl
  go_wp2_with fail
  go_ret2
  have hbb := HB3.out.trans (HB4.out.mono HB3.out.size)
  exact ⟨_, rfl, Kd.R_lower HR4.out (by omega), HP2.out.below hbb, HF2.out.trans (.of_below hbb)⟩
end Disk
end Go.Proofs.Ytopfjmeejpamjaa
end
section
namespace Go.Proofs.Ytopfjmeejpamjaa
set_option linter.unusedVariables false
set_option linter.unusedSimpArgs false
open Go.RowKit Go.Proofs.YtopfjmeejpamjaaW.PrintWords Go.Proofs.YtopfjmeejpamjaaW.PrintLast Go.Proofs.YtopfjmeejpamjaaW.PrintMore
namespace Disk
open Go.Disk PDiskDoes PSuper
theorem infoW : (Try.prog.info? 94).map (fun i => (i.zero, i.size, i.bytes)) = some (some (.agg #[.int .i64 0, .slice none 0 0]), 2, 32) := by kernel_rfl
def waitD (D : Dk) (n : Int) (b : List Int) : Dk := { D with waits := D.waits ++ [(n, b)] }
theorem wait_ok {D : Dk} (h : Ok D) (n : Int) (b : List Int) (hn : 0 ≤ n ∧ n < D.safe.length) (hl : b.length = 256) (hb : ∀ x ∈ b, 0 ≤ x ∧ x ≤ 255) : Ok (waitD D n b) :=
  ⟨h.few, h.len, h.byte, fun p hp => by
    rcases List.mem_append.1 hp with h1 | h1
    · exact h.at_ p h1
    · simp at h1
      subst h1
      exact ⟨hn.1, hn.2, hl, hb⟩, h.left⟩
def writeD (D : Dk) (n : Int) (b : List Int) : Dk × Int :=
  if ready D n ≠ 0 then (D, ready D n) else if b.length ≠ 256 then (D, 11) else if D.left = 0 then (deedD (waitD D n b), 9) else ({ deedD (waitD D n b) with writes := wrap64 (D.writes + 1) }, 0)
set_option maxHeartbeats 8000000 in
set_option maxRecDepth 100000 in
theorem write_yes {w : World} {base db sb : Nat} {D : Dk} (h : PD w base db sb D) (N : Int) (hr : ready D N = 0) (a : Addr) (c : Nat) (bs : List Int) (hl : bs.length = 256) (hby : ∀ x ∈ bs, 0 ≤ x ∧ x ≤ 255) (hC : ∀ x, Below w.heap.size w x → Kd.C (Kd.int .u8) x (some a) bs.length bs) (hfew : D.waits.length ≤ 1000000) :
    Calls Try.prog 40 #[.pointer (some ⟨db, 0, none⟩), .int .i64 N, .slice (some a) bs.length c] w fun e w' => e = .returned (.int .i64 (writeD D N bs).2) ∧ PD w' base db sb (writeD D N bs).1 ∧ FP base db sb w w' := by
  have hN : 0 ≤ N ∧ N < D.safe.length := by
    unfold ready at hr
    split at hr
    · omega
    · split at hr
      · omega
      · omega
  have HP := Aside0.mk h
  have HR := Aside0.mk hr
  have HC := Aside0.mk hC
  have HBY := Aside0.mk hby
  obtain ⟨vw, cs, sp, hx⟩ := h
  obtain ⟨AW, cW, rfl⟩ := Kd.R_slice hx.waits
  have HX := Aside0.mk hx
  have hdl : db < w.heap.size := blk_lt hx.cells
  clear hx hr hC hby
  rw [hl]
  go_enter Try.func40, Try.ntmps40
  go_wp2_with fail
  refine (ready_any N HP.out).mono ?_
  rintro e w1 ⟨rfl, rfl⟩
  rw [HR.out]
  go_wp2_with fail
  have hm1 : ∀ m : Go.Reg.In (Below w1.heap.size w1), m.w.cell? ⟨db, 1, none⟩ = some (.slice AW D.waits.length cW) := fun m => by rw [m.h.cell hdl]; exact cell_blk HX.out.cells
  refine Go.Reg.region (Below w1.heap.size w1) [.p, .s, .s, .s, .s, .s, .s, .w, .s, .w, .x, .p, .p, .x] (by kernel_rfl) (by kernel_rfl) (below_drew1 (Below.refl _ _)) (fun ne => ?_)
  refine Go.Reg.lex_qp 1 _ _ _ _ _ (by rfl) ?_; simp only [List.take_succ_cons, List.take_zero, List.drop_succ_cons, List.drop_zero]; (repeat (go_big_quiet_step (rfl))); refine wpQuiet_nil ?_
  refine Go.Reg.lex_q 6 _ _ _ _ (by rfl) ?_; simp only [List.take_succ_cons, List.take_zero, List.drop_succ_cons, List.drop_zero]; (repeat (go_big_quiet_step (rfl))); refine wpQuiet_nil ?_
  refine Go.Reg.step_w (fun K hK => ?_)
  go_wp2_with fail
  have hcl := clone8 (w := w1.drew) a c bs (HC.out _ (below_drew1 (Below.refl _ _))) (by omega)
  rw [hl] at hcl
  refine hcl.mono ?_
  rintro e w2 ⟨vb, rfl, hrb, _, hb2⟩
  obtain ⟨AB, cB, rfl⟩ := Kd.R_slice hrb
  have HRB := Aside0.mk hrb
  have HB2 := Aside0.mk ((below_drew1 (Below.refl w1.heap.size w1)).trans hb2)
  rw [hl]
  clear hcl hrb hb2
  go_wp2_with fail
  refine hK.out _ _ HB2.out ?_
  clear hK K
  refine Go.Reg.lex_q 1 _ _ _ _ (by rfl) ?_; simp only [List.take_succ_cons, List.take_zero, List.drop_succ_cons, List.drop_zero]; (repeat (go_big_quiet_step (rfl))); refine wpQuiet_nil ?_
  refine Go.Reg.step_w (fun K hK => ?_)
  go_wp2_with fail
  refine hK.out _ _ (HB2.out.alloc HB2.out.size _) ?_
  clear hK K
  refine Go.Reg.step_x (by rfl) (fun K hK => ?_)
  have hs2 : w1.heap.size ≤ w2.heap.size := HB2.out.size
  have hsl : sb < w1.heap.size := blk_lt HX.out.safe
  have hdb := HX.out.dbase
  have HOW := Aside0.mk (Kd.R_lt HX.out.waits)
  have HX2 := Aside0.mk (HX.out.below HB2.out)
  refine Kd.R_append kW (w0 := w2) (W := w2) 0 rfl (.tmp 22) (.tmp 27) 82 94 (.agg #[.int .i64 0, .slice none 0 0]) 32 rfl Try.underlying82 infoW rfl (by decide) (by omega) (.slice AW D.waits.length cW) D.waits (N, bs) [.int .i64 N, .slice AB 256 cB] (fun k => k ≠ sb) (fun k => w1.heap.size ≤ k) rfl rfl ?aP ?aK ?aF ?aO (Below.refl _ _) ?aB ?aL ?_
  case aP => exact ⟨[.int .i64 N], [.slice AB 256 cB], rfl, rfl, _, rfl, by
    have h1 := HRB.out
    rw [hl] at h1
    exact Kd.R_mono (Kd.R_lower (Kd.R_bound h1) (Nat.zero_le _)) (fun k hk => hk.2.1)⟩
  case aK => exact fun k hk => ⟨by omega, fun e => by have := HOW.out k e.symm; omega⟩
  case aF => exact fun k hk => by omega
  case aO => exact HX2.out.waits
  case aB => omega
  case aL => omega
  intro v3 w3 ho3 _ hg3 hat3
  have HWO := Aside0.mk (show ∀ k, v3.ownBlock = some k → base ≤ k from fun k hk => by
    rcases hat3 with h | ⟨b, h1, h2⟩
    · exact HX.out.wown k (h ▸ hk)
    · rw [h1] at hk; cases hk; have := HX.out.dbase; omega)
  obtain ⟨A3, c3, rfl⟩ := Kd.R_slice ho3
  have hlen1 : (D.waits ++ [(N, bs)]).length = D.waits.length + 1 := by simp
  rw [hlen1] at ho3 HWO
  rw [hlen1]
  clear hlen1
  have HO3 := Aside0.mk ho3
  have hned : some db ≠ (Value.slice AW D.waits.length cW).ownBlock := Kd.R_ne HX2.out.waits HX2.out.cells (by decide)
  have hnes : some sb ≠ (Value.slice AW D.waits.length cW).ownBlock := fun e => (HX2.out.waits.1 sb e.symm) rfl
  have k3 := (hg3.block db (by omega) hned).trans HX2.out.cells
  have ks3 := (hg3.block sb (by omega) hnes).trans HX2.out.safe
  have HK3 := Aside0.mk k3
  have HS3 := Aside0.mk ks3
  have d1 : w3.cell? ⟨db, 1, none⟩ = some (.slice AW D.waits.length cW) := cell_blk k3
  have g1 : w3.frozen? ⟨db, 1, none⟩ = false := frozen_blk k3
  have HF3 := Aside0.mk (show FP base db sb w1 w3 from (Fr.of_below HB2.out).trans ⟨hg3.os, hg3.tape, hg3.output, hg3.size, fun k hk hne ht => hg3.block k hk (fun e => by
    obtain ⟨cells, hcells⟩ := own_typed (Kd.R_own HX2.out.waits).choose_spec k e.symm
    exact ht _ _ _ hcells ⟨HX2.out.wown k e.symm, rfl⟩)⟩)
  clear ho3 hg3 hat3 k3 ks3 hned hnes
  refine hK.out _ _ ?_
  clear hK K
  simp only [Act.put, List.setIfInBounds_toArray, List.set_cons_succ, List.set_cons_zero]
  refine Go.Reg.lex_qp 2 _ _ _ _ _ (by rfl) ?_; simp only [List.take_succ_cons, List.take_zero, List.drop_succ_cons, List.drop_zero]; (repeat (go_big_quiet_step (rfl))); refine wpQuiet_nil ?_
  refine Go.Reg.step_x (by rfl) (fun K hK => ?_)
  go_wp2_with fail
  refine hK.out _ _ ?_
  clear hK K
  refine Go.Reg.lex_nil ?_
  have hset := blk_set HK3.out 1 (.slice A3 (D.waits.length + 1) c3)
  obtain ⟨w4, hw4⟩ : ∃ w4, w4 = w3.setCell ⟨db, 1, none⟩ (.slice A3 (D.waits.length + 1) c3) := ⟨_, rfl⟩
  have hp4 : PD w4 base db sb (waitD D N bs) := by
    refine ⟨.slice A3 (D.waits.length + 1) c3, cs, sp, wait_ok HX.out.ok N bs hN hl HBY.out, HX.out.dbase, HX.out.sbase, HWO.out, ?_, ?_, ?_, HX.out.room⟩
    · rw [hw4, hset]; rfl
    · rw [hw4]; exact Kd.R_set HO3.out HK3.out (by decide) 1 _
    · rw [hw4, Below.heap_setCell _ _ _ _ (Ne.symm HX.out.ne)]; exact HS3.out
  have hf4 : FP base db sb w1 w4 := by rw [hw4]; exact HF3.out.trans (.set _ _ _ _ (.inl rfl))
  try rw [← hw4]
  have HP4 := Aside0.mk hp4
  have HF4 := Aside0.mk hf4
  clear hw4 hset hp4 hf4 d1 g1
  go_wp2_with fail
  refine (deed_any HP4.out).mono ?_
  rintro e w5 ⟨rfl, hp5, hf5⟩
  have HP5 := Aside0.mk hp5
  have HF5 := Aside0.mk (HF4.out.trans hf5)
  clear hp5 hf5
  have hwd : writeD D N bs = if D.left = 0 then (deedD (waitD D N bs), 9) else ({ deedD (waitD D N bs) with writes := wrap64 (D.writes + 1) }, 0) := by
    unfold writeD
    rw [HR.out, if_neg (by simp), if_neg (by rw [hl]; simp)]
  have HWD := Aside0.mk hwd
  clear hwd
  by_cases hz : D.left = 0
  · rw [show (waitD D N bs).left = D.left from rfl, if_pos hz]
    go_wp2_with fail
    go_ret
    rw [HWD.out, if_pos hz]
    exact ⟨rfl, HP5.out, HF5.out⟩
  · rw [show (waitD D N bs).left = D.left from rfl, if_neg hz]
    obtain ⟨vw5, cs5, sp5, hx5⟩ := HP5.out
    have hwr : (deedD (waitD D N bs)).writes = D.writes := by unfold deedD; rw [show (waitD D N bs).left = D.left from rfl, if_neg hz]; rfl
    have c5 : w5.cell? ⟨db, 5, none⟩ = some (.int .i64 D.writes) := by rw [← hwr]; exact cell_blk hx5.cells
    have f5 : w5.frozen? ⟨db, 5, none⟩ = false := frozen_blk hx5.cells
    have HX5 := Aside0.mk hx5
    have HWR := Aside0.mk hwr
    clear hx5 hwr
    go_wp2_with fail
    refine (add_at _ db 5 D.writes 1 c5 f5).mono ?_
    rintro e w6 ⟨rfl, hw6⟩
    have hp6 : PD w6 base db sb { deedD (waitD D N bs) with writes := wrap64 (D.writes + 1) } := ⟨vw5, cs5, sp5, by rw [hw6]; exact HX5.out.put 5 _ (cnt_ok HX5.out.ok rfl rfl rfl) rfl rfl rfl⟩
    have hf6 : FP base db sb w1 w6 := by rw [hw6]; exact HF5.out.trans (.set _ _ _ _ (.inl rfl))
    clear hw6
    go_wp2_with fail
    go_ret
    rw [HWD.out, if_neg hz]
    exact ⟨rfl, hp6, hf6⟩
end Disk
end Go.Proofs.Ytopfjmeejpamjaa
namespace Go.Proofs.Ytopfjmeejpamjaa
set_option linter.unusedVariables false
set_option linter.unusedSimpArgs false
open Go.RowKit Go.Proofs.YtopfjmeejpamjaaW.PrintWords Go.Proofs.YtopfjmeejpamjaaW.PrintLast Go.Proofs.YtopfjmeejpamjaaW.PrintMore
namespace Disk
open Go.Disk PDiskDoes PSuper
set_option maxHeartbeats 8000000 in
set_option maxRecDepth 100000 in
theorem write_no {w : World} {base db sb : Nat} {D : Dk} (h : PD w base db sb D) (N : Int) (hr : ready D N ≠ 0) (A : Option Addr) (l c : Nat) :
    Calls Try.prog 40 #[.pointer (some ⟨db, 0, none⟩), .int .i64 N, .slice A l c] w fun e w' => e = .returned (.int .i64 (ready D N)) ∧ w' = w := by
  obtain ⟨r, hrr⟩ : ∃ r, r = ready D N := ⟨_, rfl⟩
  rw [← hrr] at hr ⊢
  have HR := Aside0.mk hrr
  clear hrr
  have hb : (r != 0) = true := by simpa using hr
  go_enter Try.func40, Try.ntmps40
  go_wp2_with fail
  refine (ready_any N h).mono ?_
  rintro e w1 ⟨rfl, rfl⟩
  rw [← HR.out]
  go_wp2_with fail
  go_ret
  exact ⟨rfl, rfl⟩
set_option maxHeartbeats 8000000 in
set_option maxRecDepth 100000 in
theorem write_size {w : World} {base db sb : Nat} {D : Dk} (h : PD w base db sb D) (N : Int) (hr : ready D N = 0) (A : Option Addr) (l c : Nat) (hl : l ≠ 256) :
    Calls Try.prog 40 #[.pointer (some ⟨db, 0, none⟩), .int .i64 N, .slice A l c] w fun e w' => e = .returned (.int .i64 11) ∧ w' = w := by
  have HR := Aside0.mk hr
  have hb : ((l : Int) != 256) = true := by simp; omega
  clear hr
  go_enter Try.func40, Try.ntmps40
  go_wp2_with fail
  refine (ready_any N h).mono ?_
  rintro e w1 ⟨rfl, rfl⟩
  rw [HR.out]
  go_wp2_with fail
  go_ret
  exact ⟨rfl, rfl⟩
set_option maxHeartbeats 8000000 in
set_option maxRecDepth 100000 in
theorem flush_no {w : World} {base db sb : Nat} {D : Dk} (h : PD w base db sb D) (hr : ready D 0 ≠ 0) :
    Calls Try.prog 46 #[.pointer (some ⟨db, 0, none⟩)] w fun e w' => e = .returned (.int .i64 (ready D 0)) ∧ w' = w := by
  obtain ⟨r, hrr⟩ : ∃ r, r = ready D 0 := ⟨_, rfl⟩
  rw [← hrr] at hr ⊢
  have HR := Aside0.mk hrr
  clear hrr
  have hb : (r != 0) = true := by simpa using hr
  go_enter Try.func46, Try.ntmps46
  go_wp2_with fail
  refine (ready_any 0 h).mono ?_
  rintro e w1 ⟨rfl, rfl⟩
  rw [← HR.out]
  go_wp2_with fail
  go_ret
  exact ⟨rfl, rfl⟩
set_option maxHeartbeats 8000000 in
set_option maxRecDepth 100000 in
theorem flush_stop {w : World} {base db sb : Nat} {D : Dk} (h : PD w base db sb D) (hr : ready D 0 = 0) (hl : D.left = 0) :
    Calls Try.prog 46 #[.pointer (some ⟨db, 0, none⟩)] w fun e w' => e = .returned (.int .i64 9) ∧ PD w' base db sb (deedD D) ∧ FP base db sb w w' := by
  have HR := Aside0.mk hr
  have HL := Aside0.mk hl
  have HP := Aside0.mk h
  clear hr hl h
  go_enter Try.func46, Try.ntmps46
  go_wp2_with fail
  refine (ready_any 0 HP.out).mono ?_
  rintro e w1 ⟨rfl, rfl⟩
  rw [HR.out]
  go_wp2_with fail
  refine (deed_any HP.out).mono ?_
  rintro e w2 ⟨rfl, hp2, hf2⟩
  rw [if_pos HL.out]
  go_wp2_with fail
  go_ret
  exact ⟨rfl, hp2, hf2⟩
end Disk
end Go.Proofs.Ytopfjmeejpamjaa
namespace Go.Proofs.Ytopfjmeejpamjaa
set_option linter.unusedVariables false
set_option linter.unusedSimpArgs false
open Go.RowKit Go.Proofs.YtopfjmeejpamjaaW.PrintWords Go.Proofs.YtopfjmeejpamjaaW.PrintLast Go.Proofs.YtopfjmeejpamjaaW.PrintMore
namespace Disk
open Go.Disk PDiskDoes PSuper
def fillTo (f : Nat → Int) (n i : Nat) : List Int := (List.range n).map fun j => if j < i then f j else 0
theorem fill_len (f : Nat → Int) (n i : Nat) : (fillTo f n i).length = n := by simp [fillTo]
theorem fill_zero (f : Nat → Int) (n : Nat) : fillTo f n 0 = List.replicate n 0 := by
  apply List.ext_getElem
  · rw [fill_len, List.length_replicate]
  · intro i h1 h2
    simp [fillTo]
theorem fill_set (f : Nat → Int) (n i : Nat) : (fillTo f n i).set i (f i) = fillTo f n (i + 1) := by
  apply List.ext_getElem
  · rw [List.length_set, fill_len, fill_len]
  · intro j h1 h2
    rw [List.getElem_set]
    simp only [fillTo, List.getElem_map, List.getElem_range]
    by_cases hj : i = j
    · subst hj; simp
    · rw [if_neg hj]
      by_cases hl : j < i
      · rw [if_pos hl, if_pos (by omega)]
      · rw [if_neg hl, if_neg (by omega)]
def rep8 (bs : List Int) (j : Nat) : Int := bs.getD (j % bs.length) 0
def blockOf (bs : List Int) : List Int := if bs.length = 0 then List.replicate 256 0 else fillTo (rep8 bs) 256 256
theorem block_len (bs : List Int) : (blockOf bs).length = 256 := by
  unfold blockOf
  split
  · exact List.length_replicate
  · exact fill_len _ _ _
theorem wrap_id (z : Int) (h0 : -9223372036854775808 ≤ z) (h1 : z ≤ 9223372036854775807) : wrap64 z = z := by
  first | (unfold wrap64; omega) | (simp [wrap64]; omega)
theorem block_l (bs : List Int) (hb : bs.length ≠ 0) : ∀ (k i : Nat), 256 < i + k → i ≤ 256 → chantrylaw06_Block.l0 k bs (fillTo (rep8 bs) 256 i) i = some (fillTo (rep8 bs) 256 256)
  | 0, i, h, _ => by omega
  | k + 1, i, h, hi => by
    simp only [chantrylaw06_Block.l0]
    by_cases hlt : i < 256
    · have hm : Int.tmod (i : Int) (bs.length : Int) = ((i % bs.length : Nat) : Int) := by rw [Int.tmod_eq_emod_of_nonneg (by omega)]; rfl
      have hmlt : i % bs.length < bs.length := Nat.mod_lt _ (by omega)
      rw [if_pos (by omega), if_pos (by omega), if_neg (by omega), hm, if_pos (by omega), if_pos (by omega), if_pos (by omega), fill_len, if_pos (by omega), Int.toNat_natCast]
      have hr : rd bs ((i % bs.length : Nat) : Int) = rep8 bs i := by unfold rd rep8; rw [Int.toNat_natCast]
      rw [hr, fill_set, wrap_id _ (by omega) (by omega)]
      exact block_l bs hb k (i + 1) (by omega) (by omega)
    · have : i = 256 := by omega
      subst this
      rw [if_neg (by omega)]
theorem block_nil (bs : List Int) (hb : bs.length = 0) (k : Nat) (acc : List Int) : chantrylaw06_Block.l0 (k + 1) bs acc 0 = some acc := by
  simp only [chantrylaw06_Block.l0]
  rw [if_pos (by omega), if_neg (by omega)]
theorem block_plain (bs : List Int) : chantrylaw06_Block.f 300 bs = some (blockOf bs) := by
  unfold chantrylaw06_Block.f blockOf
  rw [if_pos (by omega)]
  by_cases hb : bs.length = 0
  · rw [if_pos hb]
    exact block_nil bs hb 299 _
  · rw [if_neg hb, ← fill_zero (rep8 bs) 256]
    exact block_l bs hb 300 0 (by omega) (by omega)
theorem Block_any {w : World} (A : Option Addr) (c : Nat) (bs : List Int) (hC : Kd.C (Kd.int .u8) w A bs.length bs) (hc : bs.length ≤ c) :
    Calls Try.prog 41 #[.slice A bs.length c] w fun e w' => ∃ a c', e = .returned (.slice (some a) 256 c') ∧ 256 ≤ c' ∧ Kd.R (Kd.int .u8) 5 w' w.heap.size (fun _ => True) (.slice (some a) 256 c') (blockOf bs) ∧ Below w.heap.size w w' := by
  refine (chantrylaw06_Block.calls 300 A c bs (blockOf bs) w hC hc (block_plain bs)).mono ?_
  rintro e w' ⟨v, rfl, hr, hb⟩
  obtain ⟨A', c', rfl⟩ := Kd.R_slice hr
  have hl := block_len bs
  obtain ⟨a, ha, _⟩ := Kd.at_int (Kd.R_reads' hr).2.2 0 (by omega) (by omega)
  subst ha
  have hc' := (Kd.R_reads' hr).2.1
  rw [hl] at hr hc' ⊢
  exact ⟨a, c', rfl, hc', hr, hb⟩
end Disk
end Go.Proofs.Ytopfjmeejpamjaa
namespace Go.Proofs.Ytopfjmeejpamjaa
set_option linter.unusedVariables false
set_option linter.unusedSimpArgs false
open Go.RowKit Go.Proofs.YtopfjmeejpamjaaW.PrintWords Go.Proofs.YtopfjmeejpamjaaW.PrintLast Go.Proofs.YtopfjmeejpamjaaW.PrintMore
namespace Disk
open Go.Disk PDiskDoes PSuper
theorem put_block {w : World} {base db sb cs : Nat} {D : Dk} {vw : Value} {sp : List Value} (h : PDx w base db sb D vw cs sp) (n : Nat) (hn : n < D.safe.length) (a : Addr) (c : Nat) (bs : List Int) (hl : bs.length = 256) (hby : ∀ x ∈ bs, 0 ≤ x ∧ x ≤ 255) (hC : Kd.C (Kd.int .u8) w (some a) bs.length bs) :
    ∃ w', (Builtin.copy_ #[26, 26] 3 #[.slice (some ⟨sb, n * 256, none⟩) 256 256, .slice (some a) 256 c]).run Try.prog w = .ok (.int .i64 256) w' ∧ PDx w' base db sb { D with safe := D.safe.set n bs } vw cs sp ∧ Fr (fun k => k = sb) (fun _ _ => False) w w' := by
  have hfl := flatLen h.ok
  obtain ⟨w', h1, h2, h3⟩ := copy_in (w := w) (g := sb) (o := n * 256) (dl := 256) (dc := 256) (sl := 256) (sc := c) a D.safe.flatten bs sp h.safe (by omega) (by rw [hl]; rfl) (fun j hj => by
    obtain ⟨ad, e, hcell⟩ := Kd.at_int hC (j : Int) (by omega) (by omega)
    cases e
    rw [Int.toNat_natCast] at hcell
    rw [hcell]
    unfold rd
    rw [Int.toNat_natCast])
  have hlb := lay_block h.ok.len n hn D.safe[n] bs (h.ok.len _ (List.getElem_mem hn)) 0 (by omega)
  have hself : lay D.safe[n] 0 bs = bs := by
    unfold lay
    rw [List.take_zero, List.nil_append, List.drop_eq_nil_of_le (by rw [h.ok.len _ (List.getElem_mem hn)]; omega), List.append_nil]
  rw [hself, List.set_getElem_self, Nat.add_zero] at hlb
  rw [hlb] at h2
  rw [hl] at h1
  have hok := ok_set h.ok n bs hl hby
  have hfl2 : (D.safe.set n bs).flatten.length = D.safe.flatten.length := by
    rw [flat_len hok.len, hfl, List.length_set]
  refine ⟨w', h1, ⟨hok, h.dbase, h.sbase, h.wown, ?_, ?_, h2, ?_⟩, h3⟩
  · show w'.heap[db]? = some (.cells #[.slice (some ⟨sb, 0, none⟩) (D.safe.set n bs).flatten.length cs, _, _, _, _, _, _] _ _)
    rw [hfl2]
    exact (h3.block db (blk_lt h.cells) h.ne (fun _ _ _ _ h => h)).trans h.cells
  · exact Kd.R_step h.waits (fun j hj hlt => h3.block j hlt hj (fun _ _ _ _ h => h))
  · show (D.safe.set n bs).flatten.length + sp.length = cs
    rw [hfl2]
    exact h.room
def flushTo : List (List Int) → List (Int × List Int) → List (List Int)
  | s, p :: ws => flushTo (s.set p.1.toNat p.2) ws
  | s, [] => s
theorem flushTo_len : ∀ (ws : List (Int × List Int)) (s : List (List Int)), (flushTo s ws).length = s.length
  | [], s => rfl
  | p :: ws, s => by
    show (flushTo (s.set p.1.toNat p.2) ws).length = _
    rw [flushTo_len ws, List.length_set]
theorem flushTo_snoc : ∀ (ws : List (Int × List Int)) (s : List (List Int)) (p : Int × List Int), flushTo s (ws ++ [p]) = (flushTo s ws).set p.1.toNat p.2
  | [], s, p => rfl
  | q :: ws, s, p => flushTo_snoc ws _ p
def safeTo (D : Dk) (i : Nat) : Dk := { D with safe := flushTo D.safe (D.waits.take i) }
theorem safeTo_next (D : Dk) (i : Nat) (hi : i < D.waits.length) : safeTo D (i + 1) = { safeTo D i with safe := (safeTo D i).safe.set D.waits[i].1.toNat D.waits[i].2 } := by
  unfold safeTo
  rw [List.take_succ_eq_append_getElem hi, flushTo_snoc]
def flushD (D : Dk) : Dk := { safeTo D D.waits.length with waits := [], flushes := wrap64 (D.flushes + 1) }
theorem none_ok {D : Dk} (h : Ok D) : Ok { D with waits := [] } := ⟨h.few, h.len, h.byte, fun p hp => by simp at hp, h.left⟩
set_option maxHeartbeats 8000000 in
set_option maxRecDepth 100000 in
theorem flush_yes {w : World} {base db sb : Nat} {D : Dk} (h : PD w base db sb D) (hr : ready D 0 = 0) (hl : D.left ≠ 0) (hfew : D.waits.length ≤ 1000000) :
    Calls Try.prog 46 #[.pointer (some ⟨db, 0, none⟩)] w fun e w' => e = .returned (.int .i64 0) ∧ PD w' base db sb (flushD (deedD D)) ∧ FP base db sb w w' := by
  have HR := Aside0.mk hr
  have HL := Aside0.mk hl
  have HP := Aside0.mk h
  obtain ⟨E, hE⟩ : ∃ E, E = deedD D := ⟨_, rfl⟩
  have hwe : E.waits = D.waits := by rw [hE]; unfold deedD; rw [if_neg hl]
  rw [← hE]
  rw [← hwe] at hfew
  have HE := Aside0.mk hE
  clear hr hl h hE hwe
  go_enter Try.func46, Try.ntmps46
  go_wp2_with fail
  refine (ready_any 0 HP.out).mono ?_
  rintro e w1 ⟨rfl, rfl⟩
  rw [HR.out]
  go_wp2_with fail
  refine (deed_any HP.out).mono ?_
  rintro e w2 ⟨rfl, hp2, hf2⟩
  rw [if_neg HL.out]
  rw [← HE.out] at hp2
  obtain ⟨vw, cs, sp, hx⟩ := hp2
  have HX := Aside0.mk hx
  have HF2 := Aside0.mk hf2
  obtain ⟨AW, cW, rfl, hcW, _⟩ := Kd.R_reads hx.waits
  have c1 : w2.cell? ⟨db, 1, none⟩ = some (.slice AW E.waits.length cW) := cell_blk hx.cells
  clear hf2 hx
  go_wp2_with fail
  have HXS := Aside0.mk (show PDx w2 base db sb (safeTo E 0) (.slice AW E.waits.length cW) cs sp from HX.out)
  have HFS := Aside0.mk (Fr.refl (fun k => k = sb) (fun _ _ => False) w2)
  go_loopg [22, 6] E.waits.length (fun g v22 v6 wr => ∃ (i : Nat), Aside0 (i + g = E.waits.length) ∧ v22 = .int .i64 i ∧ Aside0 (PDx wr base db sb (safeTo E i) (.slice AW E.waits.length cW) cs sp) ∧ Aside0 (Fr (fun k => k = sb) (fun _ _ => False) w2 wr))
  case atStart => exact ⟨0, ⟨by omega⟩, rfl, HXS, HFS⟩
  case round =>
    clear HXS HFS
    obtain ⟨i, HI, rfl, HXR, HF⟩ := hrel
    by_cases hi : i < E.waits.length
    · obtain ⟨g, cap, vb, hvw, hw0, hw1, hwr, hgs, hgl, _⟩ := W_at HXR.out.waits i hi
      cases hvw
      obtain ⟨ab, cb, hvb, hcb, _⟩ := Kd.R_reads hwr
      subst hvb
      have hat := HX.out.ok.at_ _ (List.getElem_mem hi)
      have HNX := Aside0.mk (safeTo_next E i hi)
      have e1 : (safeTo E i).waits[i]'hi = E.waits[i] := rfl
      rw [e1] at hw0 hw1 hwr hcb
      clear e1
      obtain ⟨N, hN⟩ : ∃ N, N = E.waits[i].1 := ⟨_, rfl⟩
      obtain ⟨bs, hbs⟩ : ∃ bs, bs = E.waits[i].2 := ⟨_, rfl⟩
      rw [← hN, ← hbs] at hat
      rw [← hN] at hw0
      rw [← hbs] at hw1 hwr hcb
      rw [← hN, ← hbs] at HNX
      clear hN hbs
      have HWR := Aside0.mk hwr
      have HAT := Aside0.mk hat
      clear hwr hat
      obtain ⟨aw, haw, _⟩ := Kd.at_int (Kd.R_reads' HWR.out).2.2 0 (by omega) (by have := HAT.out.2.2.1; omega)
      subst haw
      rw [HAT.out.2.2.1] at hw1
      go_wp2_with fail
      obtain ⟨V, hV⟩ : ∃ V, V = wr.alloc (.cells #[.int .i64 N, .slice (some aw) 256 cb] 94) := ⟨_, rfl⟩
      have hal : Below wr.heap.size wr V := by rw [hV]; exact (Below.refl _ _).alloc (Nat.le_refl _) _
      have hbx : V.heap[wr.heap.size]? = some (.cells #[.int .i64 N, .slice (some aw) 256 cb] 94 (0, 0)) := by rw [hV]; exact heap_alloc_new wr _
      rw [← hV]
      have HBX := Aside0.mk hbx
      have HAL := Aside0.mk hal
      have HXV := Aside0.mk (HXR.out.below (hal.trans (below_drew1 (Below.refl _ _))))
      clear hV hal hbx hw0 hw1
      obtain ⟨n, hn⟩ : ∃ n : Nat, N = n := ⟨N.toNat, by have := HAT.out.1; omega⟩
      subst hn
      have hnl : n < (safeTo E i).safe.length := by show n < (flushTo _ _).length; rw [flushTo_len]; have := HAT.out.2.1; omega
      have hfew2 := HXV.out.ok.few
      have hfl : (safeTo E i).safe.flatten.length = (safeTo E i).safe.length * 256 := flatLen HXV.out.ok
      have hroom : (safeTo E i).safe.length * 256 ≤ cs := by have := HXV.out.room; omega
      have hm0 : ∀ m : Go.Reg.In (fun x => x = V.drew), m.w.cell? ⟨db, 0, none⟩ = some (.slice (some ⟨sb, 0, none⟩) ((safeTo E i).safe.length * 256) cs) := fun m => by rw [m.h, ← hfl]; exact cell_blk HXV.out.cells
      have hm1 : ∀ m : Go.Reg.In (fun x => x = V.drew), m.w.cell? ⟨wr.heap.size, 0, none⟩ = some (.int .i64 n) := fun m => by rw [m.h]; exact cell_blk (w := V) HBX.out
      have hm2 : ∀ m : Go.Reg.In (fun x => x = V.drew), m.w.cell? ⟨wr.heap.size, 1, none⟩ = some (.slice (some aw) 256 cb) := fun m => by rw [m.h]; exact cell_blk (w := V) HBX.out
      obtain ⟨L, hL⟩ : ∃ L, L = (safeTo E i).safe.length := ⟨_, rfl⟩
      rw [← hL] at hm0 hfew2 hnl hroom
      have HLL := Aside0.mk hL
      clear hL hfl
      obtain ⟨w7, hcp, hx7, hf7⟩ := put_block HXV.out n (by rw [← HLL.out]; exact hnl) aw cb bs HAT.out.2.2.1 HAT.out.2.2.2 (Kd.R_reads' (Kd.R_below HWR.out (HAL.out.trans (below_drew1 (Below.refl _ _))))).2.2
      have HX7 := Aside0.mk hx7
      have HF7 := Aside0.mk (HF.out.trans ((Fr.of_below (HAL.out.trans (below_drew1 (Below.refl _ _)))).trans hf7))
      clear hx7 hf7
      refine Go.Reg.region (fun x => x = V.drew) [.s, .s, .s, .s, .s, .s, .w, .s, .s, .x] (by kernel_rfl) (by kernel_rfl) rfl (fun ne => ?_)
      refine Go.Reg.lex_q 6 _ _ _ _ (by rfl) ?_; simp only [List.take_succ_cons, List.take_zero, List.drop_succ_cons, List.drop_zero]; (repeat (go_big_quiet_step (rfl))); refine wpQuiet_nil ?_
      refine Go.Reg.step_w (fun K hK => ?_)
      go_wp2_with fail
      refine (block_at sb L cs n hnl (by omega) hroom).mono ?_
      rintro e w5 ⟨rfl, rfl⟩
      go_wp2_with fail
      refine hK.out _ _ rfl ?_
      clear hK K
      refine Go.Reg.lex_q 2 _ _ _ _ (by rfl) ?_; simp only [List.take_succ_cons, List.take_zero, List.drop_succ_cons, List.drop_zero]; (repeat (go_big_quiet_step (rfl))); refine wpQuiet_nil ?_
      refine Go.Reg.step_x (by rfl) (fun K hK => ?_)
      clear hm0 hm1 hm2
      go_wp2_with fail
      refine hK.out _ _ ?_
      clear hK K
      refine Go.Reg.lex_nil ?_
      clear hcp
      go_wp2_with fail
      go_roundg (gk - 1)
      case measure => have := HI.out; omega
      case rel => exact ⟨i + 1, ⟨by have := HI.out; omega⟩, by go_num, ⟨by rw [HNX.out]; exact HX7.out⟩, HF7⟩
    · have hin : i = E.waits.length := by have := HI.out; omega
      subst hin
      have c1' : wr.cell? ⟨db, 1, none⟩ = some (.slice AW E.waits.length cW) := cell_blk HXR.out.cells
      have f1' : wr.frozen? ⟨db, 1, none⟩ = false := frozen_blk HXR.out.cells
      go_wp2_with fail
      have hx := HXR.out
      have hb1 := blk_set hx.cells 1 (.slice none 0 0)
      obtain ⟨w8, hw8⟩ : ∃ w8, w8 = wr.setCell ⟨db, 1, none⟩ (.slice none 0 0) := ⟨_, rfl⟩
      rw [← hw8] at hb1 ⊢
      have hx8 : PDx w8 base db sb { safeTo E E.waits.length with waits := [] } (.slice none 0 0) cs sp := by
        refine ⟨none_ok hx.ok, hx.dbase, hx.sbase, fun _ h => by simp [Value.ownBlock] at h, ?_, Kd.R_nil _ _ _ _ _, ?_, hx.room⟩
        · rw [hb1]; rfl
        · rw [hw8, Below.heap_setCell _ _ _ _ (Ne.symm hx.ne)]; exact hx.safe
      have HX8 := Aside0.mk hx8
      have HF8 := Aside0.mk (show FP base db sb w1 w8 by rw [hw8]; exact HF2.out.trans ((HF.out.mono (fun _ h => .inr h) (fun _ _ h => h.elim)).trans (Fr.set _ _ _ _ (.inl rfl))))
      clear hw8 hb1 hx8 hx c1' f1'
      have c6 : w8.cell? ⟨db, 6, none⟩ = some (.int .i64 E.flushes) := cell_blk HX8.out.cells
      have f6 : w8.frozen? ⟨db, 6, none⟩ = false := frozen_blk HX8.out.cells
      go_wp2_with fail
      refine (add_at _ db 6 E.flushes 1 c6 f6).mono ?_
      rintro e w9 ⟨rfl, hw9⟩
      have hp9 : PD w9 base db sb (flushD E) := ⟨.slice none 0 0, cs, sp, by rw [hw9]; exact HX8.out.put 6 _ (D' := flushD E) (cnt_ok HX8.out.ok rfl rfl rfl) rfl rfl rfl⟩
      have hf9 : FP base db sb w1 w9 := by rw [hw9]; exact HF8.out.trans (.set _ _ _ _ (.inl rfl))
      clear hw9
      go_wp2_with fail
      go_ret
      exact ⟨rfl, hp9, hf9⟩
end Disk
end Go.Proofs.Ytopfjmeejpamjaa
namespace Go.Proofs.Ytopfjmeejpamjaa
set_option linter.unusedVariables false
set_option linter.unusedSimpArgs false
open Go.RowKit Go.Proofs.YtopfjmeejpamjaaW.PrintWords Go.Proofs.YtopfjmeejpamjaaW.PrintLast Go.Proofs.YtopfjmeejpamjaaW.PrintMore
namespace Disk
open Go.Disk PDiskDoes PSuper
end Disk
end Go.Proofs.Ytopfjmeejpamjaa
namespace Go.Proofs.Ytopfjmeejpamjaa
set_option linter.unusedVariables false
set_option linter.unusedSimpArgs false
open Go.RowKit Go.Proofs.YtopfjmeejpamjaaW.PrintWords Go.Proofs.YtopfjmeejpamjaaW.PrintLast Go.Proofs.YtopfjmeejpamjaaW.PrintMore
namespace Disk
open Go.Disk PDiskDoes PSuper
def chunks (xs : List Int) (n : Nat) : List (List Int) := (List.range n).map (fun i : Nat => (xs.drop (i * 256)).take 256)
end Disk
end Go.Proofs.Ytopfjmeejpamjaa
end
section
namespace Go.Proofs.Ytopfjmeejpamjaa
set_option linter.unusedVariables false
set_option linter.unusedSimpArgs false
open Go.RowKit Go.Proofs.YtopfjmeejpamjaaW.PrintWords Go.Proofs.YtopfjmeejpamjaaW.PrintLast Go.Proofs.YtopfjmeejpamjaaW.PrintMore
namespace Disk
open Go.Disk PDiskDoes PSuper
def a0 : Dk := blankD 16
def a1 : Dk := (writeD a0 3 (blockOf [7])).1
def a2 : Dk := crashD a1 [5]
def a3 : Dk := readD a2
def a4 : Dk := stopD a3 0
def a5 : Dk := deedD a4
theorem k0 : ready a0 3 = 0 := by kernel_rfl
theorem k1 : (writeD a0 3 (blockOf [7])).2 = 0 := by kernel_rfl
theorem k2 : ready a2 3 = 0 := by kernel_rfl
theorem k3 : a2.waits.length = 0 := by kernel_rfl
theorem k4 : ready a3 16 = 10 := by kernel_rfl
theorem k5 : ready a3 3 = 0 := by kernel_rfl
theorem n1 : rd (nowD a2 3) 64 = 0 := by kernel_rfl
theorem n2 : rd (nowD a2 3) 128 = 7 := by kernel_rfl
theorem n3 : rd (nowD a2 3) 192 = 0 := by kernel_rfl
theorem FP.low {base db sb : Nat} {w w' : World} (f : FP base db sb w w') (hd : base ≤ db) (hs : base ≤ sb) (k : Nat) (hk : k < base) (hw : base ≤ w.heap.size) : w'.heap[k]? = w.heap[k]? :=
  f.block k (by omega) (by rintro (h | h) <;> omega) (fun _ _ _ _ h => by omega)
theorem FP.below {base db sb : Nat} {w w' : World} (f : FP base db sb w w') (hd : base ≤ db) (hs : base ≤ sb) (hw : base ≤ w.heap.size) : Below base w w' := ⟨f.os, f.tape, f.output, f.size, fun k hk => f.low hd hs k hk hw⟩
theorem row_at {w : World} {base : Nat} {ok : Nat → Prop} {A : Option Addr} {l c : Nat} {xs : List Int} (h : Kd.R (Kd.int .u8) 5 w base ok (.slice A l c) xs) : Kd.C (Kd.int .u8) w A xs.length xs := (Kd.R_reads' h).2.2
end Disk
end Go.Proofs.Ytopfjmeejpamjaa
namespace Go.Proofs.Ytopfjmeejpamjaa
set_option linter.unusedVariables false
set_option linter.unusedSimpArgs false
open Go.RowKit Go.Proofs.YtopfjmeejpamjaaW.PrintWords Go.Proofs.YtopfjmeejpamjaaW.PrintLast Go.Proofs.YtopfjmeejpamjaaW.PrintMore
namespace Disk
open Go.Disk PDiskDoes PSuper
def sec (k : Nat) (l : List Int) : List Int := (l.drop (64 * k)).take 64
end Disk
end Go.Proofs.Ytopfjmeejpamjaa
end
section
namespace Go.Proofs.Ytopfjmeejpamjaa
set_option linter.unusedVariables false
set_option linter.unusedSimpArgs false
open Go.RowKit Go.Proofs.YtopfjmeejpamjaaW.PrintWords Go.Proofs.YtopfjmeejpamjaaW.PrintLast Go.Proofs.YtopfjmeejpamjaaW.PrintMore
namespace Disk
open Go.Disk PDiskDoes PSuper
abbrev kB : Kd (List Int) := Kd.slice 5 (Kd.int .u8)
structure RDx (w : World) (base sb xb : Nat) (D : Dk) (vs vw : Value) : Prop where
  ok : Ok D
  xbase : base ≤ xb
  slt : sb < w.heap.size
  sown : ∀ k, vs.ownBlock = some k → base ≤ k
  wown : ∀ k, vw.ownBlock = some k → base ≤ k
  cells : w.heap[xb]? = some (.cells #[vs, vw, .int .i64 D.left, .bool D.off, .int .i64 D.reads, .int .i64 D.writes, .int .i64 D.flushes] 103 (0, 0))
  safe : Kd.R kB 26 w 0 (fun k => k ≠ sb) vs D.safe
  waits : Kd.R kW 117 w 0 (fun k => k ≠ sb) vw D.waits
def RD (w : World) (base sb xb : Nat) (D : Dk) : Prop := ∃ vs vw, RDx w base sb xb D vs vw
theorem RDx.below {w w' : World} {base sb xb : Nat} {D : Dk} {vs vw : Value} (h : RDx w base sb xb D vs vw) (b : Below w.heap.size w w') : RDx w' base sb xb D vs vw :=
  ⟨h.ok, h.xbase, Nat.lt_of_lt_of_le h.slt b.size, h.sown, h.wown, (b.block xb (blk_lt h.cells)).trans h.cells, Kd.R_below h.safe b, Kd.R_below h.waits b⟩
theorem RD.below {w w' : World} {base sb xb : Nat} {D : Dk} (h : RD w base sb xb D) (b : Below w.heap.size w w') : RD w' base sb xb D := by
  obtain ⟨vs, vw, h⟩ := h
  exact ⟨vs, vw, h.below b⟩
theorem RD.ok {w : World} {base sb xb : Nat} {D : Dk} (h : RD w base sb xb D) : Ok D := by
  obtain ⟨vs, vw, h⟩ := h
  exact h.ok
theorem RDx.put {w : World} {base sb xb : Nat} {D D' : Dk} {vs vw : Value} (h : RDx w base sb xb D vs vw) (k : Nat) (v : Value) (hok : Ok D') (hs : D'.safe = D.safe) (hw : D'.waits = D.waits)
    (hc : (#[vs, vw, .int .i64 D.left, .bool D.off, .int .i64 D.reads, .int .i64 D.writes, .int .i64 D.flushes] : Array Value).setIfInBounds k v = #[vs, vw, .int .i64 D'.left, .bool D'.off, .int .i64 D'.reads, .int .i64 D'.writes, .int .i64 D'.flushes]) :
    RDx (w.setCell ⟨xb, k, none⟩ v) base sb xb D' vs vw := by
  refine ⟨hok, h.xbase, by simpa [World.setCell] using h.slt, h.sown, h.wown, ?_, by rw [hs]; exact Kd.R_set h.safe h.cells (by decide) k v, by rw [hw]; exact Kd.R_set h.waits h.cells (by decide) k v⟩
  rw [blk_set h.cells k v, hc]
theorem RDx.fp {w w' : World} {base base' db sb xb : Nat} {D : Dk} {vs vw : Value} {dc : Array Value} (h : RDx w base sb xb D vs vw) (hd : w.heap[db]? = some (.cells dc 91 (0, 0))) {sc : Array Value} (hs : w.heap[sb]? = some (.cells sc 5 (0, 0))) (f : FP base' db sb w w') : RDx w' base sb xb D vs vw := by
  have key : ∀ k, k < w.heap.size → k ≠ sb → (∃ q, (q = 26 ∨ q = 5 ∨ q = 117 ∨ q = 103) ∧ ∃ cells, w.heap[k]? = some (.cells cells q (0, 0))) → w'.heap[k]? = w.heap[k]? := by
    rintro k hk hne ⟨q, hq, cells, hc⟩
    refine f.block k hk ?_ (fun c t fz hc' => ?_)
    · rintro (rfl | rfl)
      · rw [hd] at hc
        cases hc
        rcases hq with h | h | h | h <;> exact absurd h (by decide)
      · exact hne rfl
    · rw [hc] at hc'
      cases hc'
      rintro ⟨_, rfl⟩
      rcases hq with h | h | h | h <;> exact absurd h (by decide)
  refine ⟨h.ok, h.xbase, Nat.lt_of_lt_of_le h.slt f.size, h.sown, h.wown, ?_, ?_, ?_⟩
  · refine (key xb (blk_lt h.cells) ?_ ⟨_, .inr (.inr (.inr rfl)), _, h.cells⟩).trans h.cells
    rintro rfl
    have := hs.symm.trans h.cells
    simp at this
  · refine Kd.R_mono (Kd.R_step (Kd.R_bound h.safe) (fun k hk hlt => ?_)) (fun _ hk => hk.1)
    obtain ⟨h1, _, _, q, hq, cells, hc⟩ := hk
    refine key k hlt h1 ⟨q, ?_, cells, hc⟩
    have hq' : q ∈ [26, 5] := hq
    simp at hq'
    rcases hq' with h | h
    · exact .inl h
    · exact .inr (.inl h)
  · refine Kd.R_mono (Kd.R_step (Kd.R_bound h.waits) (fun k hk hlt => ?_)) (fun _ hk => hk.1)
    obtain ⟨h1, _, _, q, hq, cells, hc⟩ := hk
    refine key k hlt h1 ⟨q, ?_, cells, hc⟩
    have hq' : q ∈ [117, 5] := hq
    simp at hq'
    rcases hq' with h | h
    · exact .inr (.inr (.inl h))
    · exact .inr (.inl h)
theorem PDx.fx {w w' : World} {base base' db sb xb cs : Nat} {D : Dk} {vw : Value} {sp : List Value} {xc : Array Value} (h : PDx w base db sb D vw cs sp) (hx : w.heap[xb]? = some (.cells xc 103 (0, 0))) (f : FX base' xb w w') : PDx w' base db sb D vw cs sp := by
  have key : ∀ k, k < w.heap.size → (∃ q, (q = 94 ∨ q = 5 ∨ q = 91) ∧ ∃ cells, w.heap[k]? = some (.cells cells q (0, 0))) → w'.heap[k]? = w.heap[k]? := by
    rintro k hk ⟨q, hq, cells, hc⟩
    refine f.block k hk ?_ (fun c t fz hc' => ?_)
    · rintro rfl
      rw [hx] at hc
      cases hc
      rcases hq with h | h | h <;> exact absurd h (by decide)
    · rw [hc] at hc'
      cases hc'
      rintro ⟨_, h | h⟩ <;> subst h <;> rcases hq with h | h | h <;> exact absurd h (by decide)
  refine ⟨h.ok, h.dbase, h.sbase, h.wown, ?_, ?_, ?_, h.room⟩
  · exact (key db (blk_lt h.cells) ⟨_, .inr (.inr rfl), _, h.cells⟩).trans h.cells
  · refine Kd.R_mono (Kd.R_step (Kd.R_bound h.waits) (fun k hk hlt => ?_)) (fun _ hk => hk.1)
    obtain ⟨h1, _, _, q, hq, cells, hc⟩ := hk
    refine key k hlt ⟨q, ?_, cells, hc⟩
    have hq' : q ∈ [94, 5] := hq
    simp at hq'
    rcases hq' with h | h
    · exact .inl h
    · exact .inr (.inl h)
  · exact (key sb (blk_lt h.safe) ⟨_, .inr (.inl rfl), _, h.safe⟩).trans h.safe
end Disk
end Go.Proofs.Ytopfjmeejpamjaa
namespace Go.Proofs.Ytopfjmeejpamjaa
set_option linter.unusedVariables false
set_option linter.unusedSimpArgs false
open Go.RowKit Go.Proofs.YtopfjmeejpamjaaW.PrintWords Go.Proofs.YtopfjmeejpamjaaW.PrintLast Go.Proofs.YtopfjmeejpamjaaW.PrintMore
namespace Disk
open Go.Disk PDiskDoes PSuper
end Disk
end Go.Proofs.Ytopfjmeejpamjaa
namespace Go.Proofs.Ytopfjmeejpamjaa
set_option linter.unusedVariables false
set_option linter.unusedSimpArgs false
open Go.RowKit Go.Proofs.YtopfjmeejpamjaaW.PrintWords Go.Proofs.YtopfjmeejpamjaaW.PrintLast Go.Proofs.YtopfjmeejpamjaaW.PrintMore
namespace Disk
open Go.Disk PDiskDoes PSuper
end Disk
end Go.Proofs.Ytopfjmeejpamjaa
namespace Go.Proofs.Ytopfjmeejpamjaa
set_option linter.unusedVariables false
set_option linter.unusedSimpArgs false
open Go.RowKit Go.Proofs.YtopfjmeejpamjaaW.PrintWords Go.Proofs.YtopfjmeejpamjaaW.PrintLast Go.Proofs.YtopfjmeejpamjaaW.PrintMore
namespace Disk
open Go.Disk PDiskDoes PSuper
end Disk
end Go.Proofs.Ytopfjmeejpamjaa
end
section
namespace Go.Proofs.Ytopfjmeejpamjaa
set_option linter.unusedVariables false
set_option linter.unusedSimpArgs false
open Go.RowKit Go.Proofs.YtopfjmeejpamjaaW.PrintWords Go.Proofs.YtopfjmeejpamjaaW.PrintLast Go.Proofs.YtopfjmeejpamjaaW.PrintMore
namespace Disk
open Go.Disk PDiskDoes PSuper
end Disk
end Go.Proofs.Ytopfjmeejpamjaa
namespace Go.Proofs.Ytopfjmeejpamjaa
set_option linter.unusedVariables false
set_option linter.unusedSimpArgs false
open Go.RowKit Go.Proofs.YtopfjmeejpamjaaW.PrintWords Go.Proofs.YtopfjmeejpamjaaW.PrintLast Go.Proofs.YtopfjmeejpamjaaW.PrintMore
namespace Disk
open Go.Disk PDiskDoes PSuper
end Disk
end Go.Proofs.Ytopfjmeejpamjaa
namespace Go.Proofs.Ytopfjmeejpamjaa
set_option linter.unusedVariables false
set_option linter.unusedSimpArgs false
open Go.RowKit Go.Proofs.YtopfjmeejpamjaaW.PrintWords Go.Proofs.YtopfjmeejpamjaaW.PrintLast Go.Proofs.YtopfjmeejpamjaaW.PrintMore
namespace Disk
open Go.Disk PDiskDoes PSuper
abbrev FB (base db sb xb : Nat) (w w' : World) : Prop := Fr (fun k => k = db ∨ k = sb ∨ k = xb) (fun k t => base ≤ k ∧ (t = 94 ∨ t = 26 ∨ t = 117)) w w'
theorem FB.of_below {base db sb xb : Nat} {w w' : World} (f : Below w.heap.size w w') : FB base db sb xb w w' := Fr.of_below f
theorem FB.below {base db sb xb : Nat} {w w' : World} (f : FB base db sb xb w w') (hd : base ≤ db) (hs : base ≤ sb) (hx : base ≤ xb) (hw : base ≤ w.heap.size) : Below base w w' := ⟨f.os, f.tape, f.output, f.size, fun k hk => f.block k (by omega) (by rintro (h | h | h) <;> omega) (fun _ _ _ _ h => by omega)⟩
structure Both (w : World) (base db sb xb : Nat) (D : Dk) : Prop where
  pd : PD w base db sb D
  rd : RD w base sb xb D
  bs : base ≤ w.heap.size
theorem Both.low {w : World} {base db sb xb : Nat} {D : Dk} (h : Both w base db sb xb D) : base ≤ db ∧ base ≤ sb ∧ base ≤ xb := by
  obtain ⟨⟨_, _, _, p⟩, ⟨_, _, r⟩, _⟩ := h
  exact ⟨p.dbase, p.sbase, r.xbase⟩
theorem Both.lt {w : World} {base db sb xb : Nat} {D : Dk} (h : Both w base db sb xb D) : db < w.heap.size ∧ sb < w.heap.size ∧ xb < w.heap.size := by
  obtain ⟨⟨_, _, _, p⟩, ⟨_, _, r⟩, _⟩ := h
  exact ⟨blk_lt p.cells, blk_lt p.safe, blk_lt r.cells⟩
theorem Both.below {w w' : World} {base db sb xb : Nat} {D : Dk} (h : Both w base db sb xb D) (b : Below w.heap.size w w') : Both w' base db sb xb D := ⟨h.pd.below b, h.rd.below b, Nat.le_trans h.bs b.size⟩
theorem Both.ok {w : World} {base db sb xb : Nat} {D : Dk} (h : Both w base db sb xb D) : Ok D := h.pd.ok
theorem Both.fp {w w' : World} {base db sb xb : Nat} {D : Dk} (h : Both w base db sb xb D) (f : FP base db sb w w') : RD w' base sb xb D := by
  obtain ⟨⟨_, _, _, p⟩, ⟨vs, vw, r⟩, _⟩ := h
  exact ⟨vs, vw, r.fp p.cells p.safe f⟩
theorem PD.fx {w w' : World} {base db sb xb : Nat} {D D' : Dk} (p : PD w base db sb D) (r : RD w base sb xb D') (f : FX base xb w w') : PD w' base db sb D := by
  obtain ⟨_, _, _, p⟩ := p
  obtain ⟨vs, vw, r⟩ := r
  exact ⟨_, _, _, p.fx r.cells f⟩
def dat (odd : Bool) (bs : List Int) : List Int := if odd then bs else blockOf bs
def flushF (D : Dk) : Dk := if ready D 0 ≠ 0 then D else if D.left = 0 then deedD D else flushD (deedD D)
def doD (D : Dk) (K N : Int) (bs : List Int) (odd : Bool) (ms : List Int) : Dk :=
  if K = 1 then (if ready D N = 0 then readD D else D)
  else if K = 2 then (writeD D N (dat odd bs)).1
  else if K = 3 then flushF D
  else if K = 4 then (if N < 0 then D else stopD D N)
  else if K = 5 then crashD D ms
  else D
end Disk
end Go.Proofs.Ytopfjmeejpamjaa
namespace Go.Proofs.Ytopfjmeejpamjaa
set_option linter.unusedVariables false
set_option linter.unusedSimpArgs false
open Go.RowKit Go.Proofs.YtopfjmeejpamjaaW.PrintWords Go.Proofs.YtopfjmeejpamjaaW.PrintLast Go.Proofs.YtopfjmeejpamjaaW.PrintMore
namespace Disk
open Go.Disk PDiskDoes PSuper
end Disk
end Go.Proofs.Ytopfjmeejpamjaa
end
section
namespace Go.Proofs.Ytopfjmeejpamjaa
set_option linter.unusedVariables false
set_option linter.unusedSimpArgs false
open Go.RowKit Go.Proofs.YtopfjmeejpamjaaW.PrintWords Go.Proofs.YtopfjmeejpamjaaW.PrintLast Go.Proofs.YtopfjmeejpamjaaW.PrintMore
namespace Disk
open Go.Disk PDiskDoes PSuper
def readF (D : Dk) (N : Int) : Dk := if ready D N = 0 then readD D else D
def readV (D : Dk) (N : Int) : List Int := if ready D N = 0 then nowD D N else []
theorem read_uni {w : World} {base db sb : Nat} {D : Dk} (h : PD w base db sb D) (N : Int) (hfew : D.waits.length ≤ 1000000000) :
    Calls Try.prog 39 #[.pointer (some ⟨db, 0, none⟩), .int .i64 N] w fun e w' => ∃ v, e = .returned (.tuple #[v, .int .i64 (ready D N)]) ∧ Kd.R (Kd.int .u8) 5 w' w.heap.size (fun _ => True) v (readV D N) ∧ PD w' base db sb (readF D N) ∧ FP base db sb w w' := by
  unfold readF readV
  by_cases hr : ready D N = 0
  · rw [if_pos hr, if_pos hr]
    refine (read_yes h N hr hfew).mono ?_
    rintro e w' ⟨v, he, hv, p, f⟩
    exact ⟨v, by rw [hr]; exact he, hv, p, f⟩
  · rw [if_neg hr, if_neg hr]
    refine (read_no h N hr).mono ?_
    rintro e w' ⟨he, rfl⟩
    exact ⟨_, he, Kd.R_nil _ _ _ _ _, h, .refl _ _ _⟩
theorem write_ready {D : Dk} {N : Int} {bs : List Int} (hr : ready D N ≠ 0) : writeD D N bs = (D, ready D N) := by unfold writeD; rw [if_pos hr]
theorem write_long {D : Dk} {N : Int} {bs : List Int} (hr : ready D N = 0) (hl : bs.length ≠ 256) : writeD D N bs = (D, 11) := by unfold writeD; rw [if_neg (by omega), if_pos hl]
theorem write_uni {w : World} {base db sb : Nat} {D : Dk} (h : PD w base db sb D) (N : Int) (A : Option Addr) (c : Nat) (bs : List Int) (hby : ∀ x ∈ bs, 0 ≤ x ∧ x ≤ 255) (hC : ∀ x, Below w.heap.size w x → Kd.C (Kd.int .u8) x A bs.length bs) (hfew : D.waits.length ≤ 1000000) :
    Calls Try.prog 40 #[.pointer (some ⟨db, 0, none⟩), .int .i64 N, .slice A bs.length c] w fun e w' => e = .returned (.int .i64 (writeD D N bs).2) ∧ PD w' base db sb (writeD D N bs).1 ∧ FP base db sb w w' := by
  by_cases hr : ready D N = 0
  · by_cases hl : bs.length = 256
    · obtain ⟨a, rfl⟩ : ∃ a, A = some a := by obtain ⟨a, ha, _⟩ := (hC _ (Below.refl _ _)).2.2 (by omega); exact ⟨a, ha⟩
      exact write_yes h N hr a c bs hl hby hC hfew
    · rw [write_long hr hl]
      refine (write_size h N hr A _ c hl).mono ?_
      rintro e w' ⟨he, rfl⟩
      exact ⟨he, h, .refl _ _ _⟩
  · rw [write_ready hr]
    refine (write_no h N hr A _ c).mono ?_
    rintro e w' ⟨he, rfl⟩
    exact ⟨he, h, .refl _ _ _⟩
def flushR (D : Dk) : Int := if ready D 0 ≠ 0 then ready D 0 else if D.left = 0 then 9 else 0
theorem flush_uni {w : World} {base db sb : Nat} {D : Dk} (h : PD w base db sb D) (hfew : D.waits.length ≤ 1000000) :
    Calls Try.prog 46 #[.pointer (some ⟨db, 0, none⟩)] w fun e w' => e = .returned (.int .i64 (flushR D)) ∧ PD w' base db sb (flushF D) ∧ FP base db sb w w' := by
  unfold flushR flushF
  by_cases hr : ready D 0 ≠ 0
  · rw [if_pos hr, if_pos hr]
    refine (flush_no h hr).mono ?_
    rintro e w' ⟨he, rfl⟩
    exact ⟨he, h, .refl _ _ _⟩
  · rw [if_neg hr, if_neg hr]
    have hr0 : ready D 0 = 0 := by omega
    by_cases hl : D.left = 0
    · rw [if_pos hl, if_pos hl]
      exact flush_stop h hr0 hl
    · rw [if_neg hl, if_neg hl]
      exact flush_yes h hr0 hl hfew
structure Pair (w : World) (base db sb xb : Nat) (D X : Dk) : Prop where
  pd : PD w base db sb D
  rd : RD w base sb xb X
  bs : base ≤ w.heap.size
theorem Pair.low {w : World} {base db sb xb : Nat} {D X : Dk} (h : Pair w base db sb xb D X) : base ≤ db ∧ base ≤ sb ∧ base ≤ xb := by
  obtain ⟨⟨_, _, _, p⟩, ⟨_, _, r⟩, _⟩ := h
  exact ⟨p.dbase, p.sbase, r.xbase⟩
theorem Pair.lt {w : World} {base db sb xb : Nat} {D X : Dk} (h : Pair w base db sb xb D X) : db < w.heap.size ∧ sb < w.heap.size ∧ xb < w.heap.size := by
  obtain ⟨⟨_, _, _, p⟩, ⟨_, _, r⟩, _⟩ := h
  exact ⟨blk_lt p.cells, blk_lt p.safe, blk_lt r.cells⟩
theorem Pair.below {w w' : World} {base db sb xb : Nat} {D X : Dk} (h : Pair w base db sb xb D X) (b : Below w.heap.size w w') : Pair w' base db sb xb D X := ⟨h.pd.below b, h.rd.below b, Nat.le_trans h.bs b.size⟩
theorem Pair.fp {w w' : World} {base db sb xb : Nat} {D X : Dk} (h : Pair w base db sb xb D X) (f : FP base db sb w w') : RD w' base sb xb X := by
  obtain ⟨⟨_, _, _, p⟩, ⟨vs, vw, r⟩, _⟩ := h
  exact ⟨vs, vw, r.fp p.cells p.safe f⟩
end Disk
end Go.Proofs.Ytopfjmeejpamjaa
end
section
namespace Go.Proofs.Ytopfjmeejpamjaa
set_option linter.unusedVariables false
set_option linter.unusedSimpArgs false
open Go.RowKit Go.Proofs.YtopfjmeejpamjaaW.PrintWords
namespace Op
open Go.ChangeShapes Go.WideShapes
section
variable {H : Type} {enc : TypeId × Value → H} {P : Program} {w : World} {base : Nat} {spare : Nat → Bool} {held : Bool}
theorem open_rows {α : Type} (d : Kd α) (good : α → Prop) {t e : TypeId} (ht : P.underlying t = some (.slice e)) (ce : P.cellsOf e = d.sz)
    (hel : ∀ fuel cs y, DataW.trod enc P w base spare held fuel e cs = some y → ∃ x, d.K w x cs ∧ good x)
    {fuel : Nat} {cs : List Value} {x : DataW H × List MemPlace} (h : DataW.trod enc P w base spare held fuel t cs = some x) :
    ∃ A c, ∃ ys : List α, cs = [.slice A ys.length c] ∧ ys.length ≤ c ∧ d.C w A ys.length ys ∧ (∀ y ∈ ys, good y) ∧ ys.length ≤ maxLen := by
  rcases Go.Deep.open_slice ht h with ⟨rfl, _⟩ | ⟨a, len, cap, m, k, D, Pl, rfl, _, hl, hm, hmm, _, hx⟩
  · exact ⟨none, 0, [], rfl, Nat.le_refl _, ⟨rfl, by simp, fun h => by simp at h⟩, by simp, by simp⟩
  · have hlm : len ≤ m := by rw [hmm]; split <;> omega
    have each : ∀ i, i < len → ∃ y : α, good y ∧ ∃ c, c.length = d.sz ∧ d.K w y c ∧ ∀ j u, c[j]? = some u → w.cell? (a.add (i * d.sz + j)) = some u := by
      intro i hi
      obtain ⟨cs', h1, h2⟩ := hx i (by omega)
      obtain ⟨y, hk, hg⟩ := hel _ _ _ h2
      obtain ⟨_, hlen, hcell⟩ := World.cells?_some h1
      refine ⟨y, hg, cs', by rw [hlen, ce], hk, fun j u hu => ?_⟩
      have hj : j < cs'.length := by
        rcases Nat.lt_or_ge j cs'.length with h' | h'
        · exact h'
        · rw [List.getElem?_eq_none h'] at hu; cases hu
      have := hcell j (by omega)
      rw [hu, Go.Deep.add_add, ce] at this
      exact this
    obtain ⟨f, hf⟩ : ∃ f : Nat → Option α, ∀ i, i < len → ∃ y, f i = some y ∧ good y ∧ ∃ c, c.length = d.sz ∧ d.K w y c ∧ ∀ j u, c[j]? = some u → w.cell? (a.add (i * d.sz + j)) = some u := by
      classical
      refine ⟨fun i => if hi : i < len then some (each i hi).choose else none, fun i hi => ?_⟩
      refine ⟨(each i hi).choose, by simp only [dif_pos hi], (each i hi).choose_spec.1, (each i hi).choose_spec.2⟩
    have hlist : ∀ n, n ≤ len → ∃ ys : List α, ys.length = n ∧ ∀ i, i < n → ys[i]? = f i := by
      intro n
      induction n with
      | zero => exact fun _ => ⟨[], rfl, fun i h => by omega⟩
      | succ n ih =>
        intro hn
        obtain ⟨ys, h1, h2⟩ := ih (by omega)
        obtain ⟨y, hy, _⟩ := hf n (by omega)
        refine ⟨ys ++ [y], by simp [h1], fun i hi => ?_⟩
        rcases Nat.lt_or_ge i n with h' | h'
        · rw [List.getElem?_append_left (by omega)]; exact h2 i h'
        · have : i = n := by omega
          subst this
          rw [List.getElem?_append_right (by omega), h1, Nat.sub_self, hy]
          rfl
    obtain ⟨ys, h1, h2⟩ := hlist len (Nat.le_refl _)
    refine ⟨some a, cap, ys, by rw [h1], by omega, ⟨rfl, ?_, fun _ => ⟨a, rfl, fun j y hj => ?_⟩⟩, fun y hy => ?_, by omega⟩
    · have : maxLen ≤ 9223372036854775807 := by decide
      omega
    · have hjl : j < ys.length := by
        rcases Nat.lt_or_ge j ys.length with h' | h'
        · exact h'
        · rw [List.getElem?_eq_none h'] at hj; cases hj
      rw [h2 j (by omega)] at hj
      obtain ⟨y', e1, _, e2⟩ := hf j (by omega)
      rw [e1] at hj
      cases hj
      exact e2
    · obtain ⟨j, hj⟩ := List.getElem?_of_mem hy
      have hjl : j < ys.length := by
        rcases Nat.lt_or_ge j ys.length with h' | h'
        · exact h'
        · rw [List.getElem?_eq_none h'] at hj; cases hj
      rw [h2 j (by omega)] at hj
      obtain ⟨y', e1, e2, _⟩ := hf j (by omega)
      rw [e1] at hj
      cases hj
      exact e2
def inI64 (x : Int) : Prop := -9223372036854775808 ≤ x ∧ x ≤ 9223372036854775807
theorem wf_i64 {x : Int} (h : (Lit.int .i64 x).wf = true) : inI64 x := by
  simp only [Lit.wf, Bool.and_eq_true, decide_eq_true_eq] at h
  have h1 : IntKind.min .i64 = -9223372036854775808 := by decide
  have h2 : IntKind.max .i64 = 9223372036854775807 := by decide
  rw [h1, h2] at h
  exact h
theorem open_i64 {t : TypeId} (ht : P.underlying t = some (.int .i64)) {fuel : Nat} {cs : List Value} {y : DataW H × List MemPlace} (h : DataW.trod enc P w base spare held fuel t cs = some y) :
    ∃ x, (Kd.int .i64).K w x cs ∧ inI64 x := by
  obtain ⟨x, e, _, hw⟩ := DataW.trod_int ht h
  exact ⟨x, e, wf_i64 hw⟩
theorem open_i64s {t e : TypeId} (ht : P.underlying t = some (.slice e)) (he : P.underlying e = some (.int .i64)) (ce : P.cellsOf e = 1) {fuel : Nat} {cs : List Value} {y : DataW H × List MemPlace} (h : DataW.trod enc P w base spare held fuel t cs = some y) :
    ∃ x : List Int, (Kd.slice e (Kd.int .i64)).K w x cs ∧ ∀ z ∈ x, inI64 z := by
  obtain ⟨A, c, ys, e1, h1, h2, h3, _⟩ := open_rows (Kd.int .i64) inI64 ht (by rw [ce]; rfl) (fun fuel cs y h => open_i64 he h) h
  exact ⟨ys, ⟨A, c, e1, h1, h2⟩, h3⟩
end
end Op
end Go.Proofs.Ytopfjmeejpamjaa
end
section
namespace Go.Proofs.Ytopfjmeejpamjaa
set_option linter.unusedVariables false
set_option linter.unusedSimpArgs false
open Go.RowKit Go.Proofs.YtopfjmeejpamjaaW.PrintWords Go.Proofs.YtopfjmeejpamjaaW.PrintLast Go.Proofs.YtopfjmeejpamjaaW.PrintMore
namespace Disk
open Go.Disk PDiskDoes PSuper
theorem below_steps {x y z : World} (h : Below x.heap.size x y) (k : Below y.heap.size y z) : Below x.heap.size x z := h.trans (k.mono h.size)
end Disk
end Go.Proofs.Ytopfjmeejpamjaa
namespace Go.Proofs.Ytopfjmeejpamjaa
set_option linter.unusedVariables false
set_option linter.unusedSimpArgs false
open Go.RowKit Go.Proofs.YtopfjmeejpamjaaW.PrintWords Go.Proofs.YtopfjmeejpamjaaW.PrintLast Go.Proofs.YtopfjmeejpamjaaW.PrintMore
namespace Disk
open Go.Disk PDiskDoes PSuper
theorem waits_deed (D : Dk) : (deedD D).waits = D.waits := by
  unfold deedD
  split <;> rfl
theorem crash_waits (D : Dk) (ms : List Int) : (crashD D ms).waits = [] := rfl
theorem waits_do (D : Dk) (K N : Int) (bs : List Int) (odd : Bool) (ms : List Int) : (doD D K N bs odd ms).waits.length ≤ D.waits.length + 1 := by
  unfold doD
  split
  · split
    · exact Nat.le_succ _
    · exact Nat.le_succ _
  split
  · unfold writeD
    split
    · exact Nat.le_succ _
    split
    · exact Nat.le_succ _
    split
    · show (deedD _).waits.length ≤ _
      rw [waits_deed]
      simp [waitD]
    · show (deedD _).waits.length ≤ _
      rw [waits_deed]
      simp [waitD]
  split
  · unfold flushF
    split
    · exact Nat.le_succ _
    split
    · rw [waits_deed]; exact Nat.le_succ _
    · exact Nat.zero_le _
  split
  · split
    · exact Nat.le_succ _
    · exact Nat.le_succ _
  split
  · rw [crash_waits]; exact Nat.zero_le _
  · exact Nat.le_succ _
structure Came (w : World) (A : Option Addr) (ys : List S61) : Prop where
  row : Kd.C k61 w A ys.length ys
  byte : ∀ y ∈ ys, (∀ x ∈ y.f2, 0 ≤ x ∧ x ≤ 255) ∧ y.f1 ≤ 9223372036854775807
theorem Came.below {w w' : World} {A : Option Addr} {ys : List S61} (h : Came w A ys) (b : Below w.heap.size w w') : Came w' A ys := ⟨Kd.C_below h.row b, h.byte⟩
theorem Came.at_ {w0 : World} {A : Option Addr} {ys : List S61} (h : Came w0 A ys) (i : Nat) (hi : i < ys.length) :
    ∃ ad A2 c2 A4 c4, A = some ad ∧ (∀ x, Below w0.heap.size w0 x → x.cell? (ad.add (i * 5)) = some (.int .i64 (rd_T61 ys i).f0) ∧ x.cell? ⟨(ad.add (i * 5)).block, (ad.add (i * 5)).off + 1, none⟩ = some (.int .i64 (rd_T61 ys i).f1) ∧ x.cell? ⟨(ad.add (i * 5)).block, (ad.add (i * 5)).off + 2, none⟩ = some (.slice A2 (rd_T61 ys i).f2.length c2) ∧ x.cell? ⟨(ad.add (i * 5)).block, (ad.add (i * 5)).off + 3, none⟩ = some (.bool (rd_T61 ys i).f3) ∧ x.cell? ⟨(ad.add (i * 5)).block, (ad.add (i * 5)).off + 4, none⟩ = some (.slice A4 (rd_T61 ys i).f4.length c4) ∧ (Kd.int .u8).C x A2 (rd_T61 ys i).f2.length (rd_T61 ys i).f2 ∧ (Kd.int .i64).C x A4 (rd_T61 ys i).f4.length (rd_T61 ys i).f4) ∧ (rd_T61 ys i).f2.length ≤ c2 ∧ (rd_T61 ys i).f4.length ≤ c4 ∧ (∀ x ∈ (rd_T61 ys i).f2, 0 ≤ x ∧ x ≤ 255) ∧ (rd_T61 ys i).f1 ≤ 9223372036854775807 := by
  obtain ⟨ad, A2, c2, A4, c4, rfl, h0, h1, h2, h3, h4, l2, g2, l4, g4⟩ := at_T61 h.row (i : Int) (by omega) (by omega)
  rw [Int.toNat_natCast] at h0 h1 h2 h3 h4
  have hm : rd_T61 ys (i : Int) ∈ ys := by
    unfold rd_T61
    rw [Int.toNat_natCast, List.getD_eq_getElem?_getD, List.getElem?_eq_getElem hi]
    exact List.getElem_mem hi
  obtain ⟨hb, hN⟩ := h.byte _ hm
  exact ⟨ad, A2, c2, A4, c4, rfl, fun x hx => ⟨pw_cell_below hx h0, pw_cell_below hx h1, pw_cell_below hx h2, pw_cell_below hx h3, pw_cell_below hx h4, Kd.C_below g2 hx, Kd.C_below g4 hx⟩, l2, l4, hb, hN⟩
end Disk
end Go.Proofs.Ytopfjmeejpamjaa
end
section
namespace Go.Proofs.Ytopfjmeejpamjaa
set_option linter.unusedVariables false
set_option linter.unusedSimpArgs false
open Go.RowKit Go.Proofs.YtopfjmeejpamjaaW.PrintWords Go.Proofs.YtopfjmeejpamjaaW.PrintLast Go.Proofs.YtopfjmeejpamjaaW.PrintMore
namespace Disk
open Go.Disk PDiskDoes PSuper
theorem now_none {D : Dk} (h : D.waits = []) (n : Int) : nowD D n = D.safe.getD n.toNat [] := by
  unfold nowD
  rw [h]
  rfl
theorem ready_ok {D : Dk} (ho : D.off = false) (n : Int) (h0 : 0 ≤ n) (h1 : n < D.safe.length) : ready D n = 0 := by
  unfold ready
  rw [ho]
  simp
  omega
def skip (n : Int) (y : S61) : Bool := y.f0 == 2 && y.f1 == n
end Disk
end Go.Proofs.Ytopfjmeejpamjaa
end
section
namespace Go.Proofs.Ytopfjmeejpamjaa
set_option linter.unusedVariables false
set_option linter.unusedSimpArgs false
open Go.RowKit Go.Proofs.YtopfjmeejpamjaaW.PrintWords Go.Proofs.YtopfjmeejpamjaaW.PrintLast Go.Proofs.YtopfjmeejpamjaaW.PrintMore
namespace Disk
open Go.Disk PDiskDoes PSuper
set_option maxRecDepth 100000 in
theorem ready_nil (n : Int) (w : World) : Calls Try.prog 76 #[.pointer none, .int .i64 n] w fun e w' => e = .returned (.int .i64 8) ∧ w' = w := by
  go_enter Try.func76, Try.ntmps76
  go_wp2_with fail
  go_ret
  exact ⟨rfl, rfl⟩
set_option maxHeartbeats 8000000 in
set_option maxRecDepth 100000 in
theorem read_nil (w : World) : Calls Try.prog 39 #[.pointer none, .int .i64 0] w fun e w' => e = .returned (.tuple #[.slice none 0 0, .int .i64 8]) ∧ w' = w := by
  go_enter Try.func39, Try.ntmps39
  go_wp2_with fail
  refine (ready_nil 0 _).mono ?_
  rintro e w1 ⟨rfl, rfl⟩
  go_wp2_with fail
  go_ret2
  exact ⟨rfl, rfl⟩
end Disk
end Go.Proofs.Ytopfjmeejpamjaa
end
section
namespace Go.Proofs.Ytopfjmeejpamjaa
set_option linter.unusedVariables false
set_option linter.unusedSimpArgs false
set_option linter.ambiguousOpen false
open Go.RowKit Go.Proofs.YtopfjmeejpamjaaW.PrintWords Go.Proofs.YtopfjmeejpamjaaW.PrintLast Go.Proofs.YtopfjmeejpamjaaW.PrintMore
namespace Supr
open Go.Num Go.Crc Go.Proofs.Ytopfjmeejpamjaa.Cell Go.Proofs.Ytopfjmeejpamjaa.Sect
def zerosB (l : List Int) : Bool := l.all (fun x => x == 0)
set_option maxRecDepth 100000 in
theorem zero_any (x : Int) (w : World) : Calls Try.prog 50 #[.int .u8 x] w fun e w' => e = .returned (.bool (x == 0)) ∧ w' = w := by
  go_enter Try.func50, Try.ntmps50
  go_wp2_with fail
  go_ret
  exact ⟨rfl, rfl⟩
set_option maxRecDepth 100000 in
theorem notzero_any (x : Int) (w : World) : Calls Try.prog 49 #[.int .u8 x] w fun e w' => e = .returned (.bool (!(x == 0))) ∧ w' = w := by
  obtain ⟨z, hz⟩ : ∃ z, z = (x == 0) := ⟨_, rfl⟩
  have h0 := zero_any x w
  rw [← hz] at h0 ⊢
  have H0 := Aside0.mk h0
  clear hz h0
  go_enter Try.func49, Try.ntmps49
  go_wp2_with fail
  refine H0.out.mono ?_
  rintro e w1 ⟨rfl, rfl⟩
  go_wp2_with fail
  go_ret
  exact ⟨rfl, rfl⟩
set_option maxHeartbeats 8000000 in
set_option maxRecDepth 100000 in
theorem index_any {w : World} (A : Option Addr) (c : Nat) (l : List Int) (hC : Kd.C (Kd.int .u8) w A l.length l) (hl : l.length ≤ 200000) :
    Calls Try.prog 82 #[.slice A l.length c, .func (.func 49) #[] #[]] w fun e w' => ∃ i : Int, e = .returned (.int .i64 i) ∧ decide (0 ≤ i) = !zerosB l ∧ w' = w := by
  have HC := Aside0.mk hC
  have HL := Aside0.mk hl
  obtain ⟨n, hn⟩ : ∃ n, n = l.length := ⟨_, rfl⟩
  have HN := Aside0.mk hn
  rw [← hn]
  clear hC hl hn
  go_enter Try.func82, Try.ntmps82
  go_wp2_with fail
  go_loopg [8] n (fun gk v8 wr => ∃ (i : Nat), Aside0 (i + gk = n) ∧ v8 = .int .i64 i ∧ Aside0 (∀ j (h : j < l.length), j < i → l[j] = 0) ∧ wr = w)
  case atStart => exact ⟨0, ⟨by omega⟩, rfl, ⟨fun j _ h => absurd h (by omega)⟩, rfl⟩
  case round =>
    obtain ⟨i, HI, rfl, HZ, rfl⟩ := hrel
    by_cases hi : i < n
    · have hil : i < l.length := by rw [← HN.out]; exact hi
      obtain ⟨ad, hadA, hc0⟩ := Kd.at_int HC.out (i : Int) (by omega) (by omega)
      cases hadA
      rw [Int.toNat_natCast] at hc0
      obtain ⟨x, hx⟩ : ∃ x, x = rd l (i : Int) := ⟨_, rfl⟩
      rw [← hx] at hc0
      have HX := Aside0.mk hx
      have hii : (i : Int) < (n : Int) := by omega
      clear hx hil
      go_wp2_with fail
      by_cases h0 : x = 0
      · subst h0
        refine (notzero_any 0 _).mono ?_
        rintro e w1 ⟨rfl, hw1⟩
        obtain rfl : w1 = wr := hw1
        go_wp2_with fail
        go_roundg (n - (i + 1))
        case measure => have := HI.out; omega
        case rel =>
          refine ⟨i + 1, ⟨by have := HI.out; omega⟩, ?_, ⟨fun j hj hji => ?_⟩, rfl⟩
          · have := HL.out; have := HN.out
            rw [show wrap64 ((i : Int) + 1) = ((i + 1 : Nat) : Int) by unfold wrap64; omega]
          · rcases Nat.lt_succ_iff_lt_or_eq.1 hji with h | h
            · exact HZ.out j hj h
            · subst h; rw [← rd_get j hj]; exact HX.out.symm
      · have hb : (x == 0) = false := by simpa using h0
        have HNZ := Aside0.mk (show zerosB l = false by
          cases hz : zerosB l with
          | false => rfl
          | true =>
            unfold zerosB at hz
            rw [List.all_eq_true] at hz
            have hil : i < l.length := by rw [← HN.out]; exact hi
            have := hz l[i] (List.getElem_mem _)
            rw [← rd_get i hil, ← HX.out] at this
            exact absurd (by simpa using this) h0)
        have hnz := notzero_any x wr
        rw [hb] at hnz
        refine hnz.mono ?_
        rintro e w1 ⟨rfl, hw1⟩
        obtain rfl : w1 = wr := hw1
        clear hnz
        go_wp2_with fail
        go_ret
        exact ⟨i, rfl, by rw [HNZ.out]; simp, rfl⟩
    · have hi2 : i = n := by have := HI.out; omega
      subst hi2
      have HNZ := Aside0.mk (show zerosB l = true by
        unfold zerosB
        rw [List.all_eq_true]
        intro y hy
        obtain ⟨j, hj, rfl⟩ := List.mem_iff_getElem.1 hy
        rw [HZ.out j hj (by rw [HN.out]; exact hj)]
        rfl)
      clear hi
      go_wp2_with fail
      go_ret
      exact ⟨-1, rfl, by rw [HNZ.out]; rfl, rfl⟩
set_option maxHeartbeats 8000000 in
set_option maxRecDepth 100000 in
theorem contains_any {w : World} (A : Option Addr) (c : Nat) (l : List Int) (hC : Kd.C (Kd.int .u8) w A l.length l) (hl : l.length ≤ 200000) :
    Calls Try.prog 48 #[.slice A l.length c, .func (.func 49) #[] #[]] w fun e w' => e = .returned (.bool (!zerosB l)) ∧ w' = w := by
  obtain ⟨n, hn⟩ : ∃ n, n = l.length := ⟨_, rfl⟩
  have hix := index_any A c l hC hl
  obtain ⟨z, hz⟩ : ∃ z, z = (!zerosB l) := ⟨_, rfl⟩
  rw [← hn, ← hz] at hix
  rw [← hn, ← hz]
  have HX := Aside0.mk hix
  clear hix hz hC hl hn
  go_enter Try.func48, Try.ntmps48
  go_wp2_with fail
  refine HX.out.mono ?_
  rintro e w1 ⟨i, rfl, rfl, rfl⟩
  go_wp2_with fail
  go_ret
  exact ⟨rfl, rfl⟩
theorem PDx_other {w : World} {base db sb cs : Nat} {D : Go.Disk.Dk} {vw : Value} {sp : List Value} (h : Disk.PDx w base db sb D vw cs sp) {ub : Nat} {uc : Array Value} (hu : w.heap[ub]? = some (.cells uc 25 (0, 0))) (k : Nat) (v : Value) : Disk.PDx (w.setCell ⟨ub, k, none⟩ v) base db sb D vw cs sp :=
  ⟨h.ok, h.dbase, h.sbase, h.wown, (Below.heap_setCell _ _ _ _ (tag_ne h.cells hu (by decide))).trans h.cells, Kd.R_set h.waits hu (by decide) k v, (Below.heap_setCell _ _ _ _ (tag_ne h.safe hu (by decide))).trans h.safe, h.room⟩
theorem PD_six {w : World} {base db sb : Nat} {D : Go.Disk.Dk} (h : Disk.PD w base db sb D) {ub : Nat} {a0 a1 a2 a3 a4 a5 : Value} (hu : w.heap[ub]? = some (.cells #[a0, a1, a2, a3, a4, a5] 25 (0, 0))) (v0 v1 v2 v3 v4 v5 : Value) : Disk.PD ((((((w.setCell ⟨ub, 0, none⟩ v0).setCell ⟨ub, 1, none⟩ v1).setCell ⟨ub, 2, none⟩ v2).setCell ⟨ub, 3, none⟩ v3).setCell ⟨ub, 4, none⟩ v4).setCell ⟨ub, 5, none⟩ v5) base db sb D := by
  obtain ⟨vw, cs, sp, h⟩ := h
  have h1 := blk_set hu 0 v0
  have h2 := blk_set h1 1 v1
  have h3 := blk_set h2 2 v2
  have h4 := blk_set h3 3 v3
  have h5 := blk_set h4 4 v4
  exact ⟨vw, cs, sp, PDx_other (PDx_other (PDx_other (PDx_other (PDx_other (PDx_other h hu 0 v0) h1 1 v1) h2 2 v2) h3 3 v3) h4 4 v4) h5 5 v5⟩
theorem Fr_then {bs : Nat → Prop} {ts : Nat → Nat → Prop} {x y z : World} (h : Disk.Fr bs ts x y) (k : Below x.heap.size y z) : Disk.Fr bs ts x z :=
  ⟨k.os.trans h.os, k.tape.trans h.tape, k.output.trans h.output, Nat.le_trans h.size k.size, fun i hi hne ht => (k.block i hi).trans (h.block i hi hne ht)⟩
theorem pd_tags {w : World} {base db sb : Nat} {D : Go.Disk.Dk} (h : Disk.PD w base db sb D) : (∃ cs, w.heap[db]? = some (.cells cs 91 (0, 0))) ∧ (∃ cs, w.heap[sb]? = some (.cells cs 5 (0, 0))) := by
  obtain ⟨vw, cs, sp, h⟩ := h
  exact ⟨⟨_, h.cells⟩, _, h.safe⟩
theorem keep_super {w w' : World} {base db sb ub : Nat} {D : Go.Disk.Dk} {uc : Array Value} (h : Disk.PD w base db sb D) (f : Disk.FP base db sb w w') (hu : w.heap[ub]? = some (.cells uc 25 (0, 0))) : w'.heap[ub]? = some (.cells uc 25 (0, 0)) := by
  obtain ⟨⟨_, h1⟩, _, h2⟩ := pd_tags h
  exact (f.block ub (blk_lt hu) (fun e => e.elim (fun e => tag_ne hu h1 (by decide) e) (fun e => tag_ne hu h2 (by decide) e)) (fun c t fz hc e => by
    rw [hu] at hc
    cases hc
    exact absurd e.2 (by decide))).trans hu
def better (n : Nat) (best : SU) (k : Int) (r : SU × Int) : SU := if r.2 = 0 ∧ r.1.b = n ∧ Int.tmod r.1.g 2 = k ∧ best.g < r.1.g then r.1 else best
def scanU (D : Go.Disk.Dk) : Nat → Go.Disk.Dk × SU × Bool
  | 0 => (D, zeroU, true)
  | k + 1 => (Disk.readF (scanU D k).1 k, better D.safe.length (scanU D k).2.1 k (getU ((Disk.readV (scanU D k).1 k).take 64)), (scanU D k).2.2 && zerosB (Disk.readV (scanU D k).1 k))
def readU (D : Go.Disk.Dk) : SU × Int := if Go.Disk.ready D 0 ≠ 0 then (zeroU, Go.Disk.ready D 0) else ((scanU D 2).2.1, if 0 < (scanU D 2).2.1.g then 0 else if (scanU D 2).2.2 then 6 else 13)
def readDk (D : Go.Disk.Dk) : Go.Disk.Dk := if Go.Disk.ready D 0 ≠ 0 then D else (scanU D 2).1
structure RU (w0 w : World) (base db sb bb : Nat) (D : Go.Disk.Dk) (best : SU) : Prop where
  fp : Disk.FP base db sb w0 w
  zero : w.heap[w0.heap.size]? = some (.cells (sixU 0 0 0 0 0 0) 25 (0, 0))
  best : w.heap[bb]? = some (.cells (sixU best.g best.b best.l best.p best.q best.o) 25 (0, 0))
  pd : Disk.PD w base db sb D
  far : w0.heap.size < bb
theorem RU.step {w0 w w' : World} {base db sb bb : Nat} {D : Go.Disk.Dk} {best : SU} (h : RU w0 w base db sb bb D best) (f : Below w.heap.size w w') : RU w0 w' base db sb bb D best :=
  ⟨h.fp.trans (.of_below f), (f.block _ (blk_lt h.zero)).trans h.zero, (f.block _ (blk_lt h.best)).trans h.best, h.pd.below f, h.far⟩
theorem RU.read {w0 w w' : World} {base db sb bb : Nat} {D D' : Go.Disk.Dk} {best : SU} (h : RU w0 w base db sb bb D best) (f : Disk.FP base db sb w w') (p : Disk.PD w' base db sb D') : RU w0 w' base db sb bb D' best :=
  ⟨h.fp.trans f, keep_super h.pd f h.zero, keep_super h.pd f h.best, p, h.far⟩
theorem RU.set {w0 w : World} {base db sb bb : Nat} {D : Go.Disk.Dk} {best : SU} (h : RU w0 w base db sb bb D best) (s : SU) : RU w0 ((((((w.setCell ⟨bb, 0, none⟩ (.int .i64 s.g)).setCell ⟨bb, 1, none⟩ (.int .i64 s.b)).setCell ⟨bb, 2, none⟩ (.int .i64 s.l)).setCell ⟨bb, 3, none⟩ (.int .i64 s.p)).setCell ⟨bb, 4, none⟩ (.int .i64 s.q)).setCell ⟨bb, 5, none⟩ (.int .i64 s.o)) base db sb bb D s :=
  ⟨Fr_then h.fp (six_below (Below.refl _ w) (Nat.le_of_lt h.far) _ _ _ _ _ _), (six_but _ _ _ _ _ _ _ (Nat.ne_of_lt h.far)).trans h.zero, six_set h.best _ _ _ _ _ _, PD_six h.pd h.best _ _ _ _ _ _, h.far⟩
theorem ready_two (D : Go.Disk.Dk) (h : Go.Disk.Ok D) (k : Nat) (hk : k < 2) : Go.Disk.ready D k = Go.Disk.ready D 0 := by
  have := h.few
  unfold Go.Disk.ready
  cases D.off with
  | true => rfl
  | false =>
    simp only [Bool.false_eq_true, if_false]
    rw [if_neg (by omega), if_neg (by omega)]
theorem readF_same (D : Go.Disk.Dk) (k : Int) : (Disk.readF D k).safe = D.safe ∧ (Disk.readF D k).off = D.off ∧ (Disk.readF D k).waits = D.waits := by
  unfold Disk.readF
  split <;> exact ⟨rfl, rfl, rfl⟩
theorem scan_same (D : Go.Disk.Dk) : ∀ k, (scanU D k).1.safe = D.safe ∧ (scanU D k).1.off = D.off ∧ (scanU D k).1.waits = D.waits
  | 0 => ⟨rfl, rfl, rfl⟩
  | k + 1 => by
    obtain ⟨h1, h2, h3⟩ := readF_same (scanU D k).1 k
    obtain ⟨k1, k2, k3⟩ := scan_same D k
    exact ⟨h1.trans k1, h2.trans k2, h3.trans k3⟩
theorem ready_same {D E : Go.Disk.Dk} (h1 : E.safe = D.safe) (h2 : E.off = D.off) (n : Int) : Go.Disk.ready E n = Go.Disk.ready D n := by
  unfold Go.Disk.ready
  rw [h1, h2]
end Supr
end Go.Proofs.Ytopfjmeejpamjaa
end
