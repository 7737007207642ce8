/- The disk in memory: what was written last (a range over slices.Backward). -/
import Derived.RangeFuncNested
import Derived.RangeFuncBound
import Derived.RangeFuncCalls
import Derived.RangeFuncLeaves
import Derived.Shelf.Abstract
import Derived.Shelf.RegionOpen
import Derived.WalkKit
import Derived.OwnWalkIn
import Derived.TacticsInMore
import Derived.LoopNIn
import Derived.LoopIn
import Derived.Test.YtooemgcijbdilaaDx
namespace Go.Proofs.Ytooemgcijbdilaa
set_option linter.unusedVariables false
set_option linter.unusedSimpArgs false
open Go.RowKit Go.Shelf
attribute [local go_sem] Oper.semAt_some
namespace Disk
open Go.Disk
/-- A waiting write as a range hands it out: its place, its block, its bytes' slice. -/
structure Ent where
  i : Nat
  n : Int
  a : Option Addr
  l : Nat
  c : Nat
abbrev Ent.v (x : Ent) : Value := .slice x.a x.l x.c
def upto (f : Nat → Ent) (k : Nat) : List Ent := (List.range k).map f
theorem upto_succ (f : Nat → Ent) (k : Nat) : upto f (k + 1) = upto f k ++ [f k] := by simp [upto, List.range_succ]
theorem upto_length (f : Nat → Ent) (k : Nat) : (upto f k).length = k := by simp [upto]
set_option maxRecDepth 100000 in
set_option maxHeartbeats 2000000 in
theorem back1_in (F : Fence) (n : Nat) (h8 : F.fn 58) (hro : F.round = none) (hn : 1 ≤ n) (l Bs n₀ b len cap : Nat) (E : Nat → Ent) (hE : ∀ j, (E j).i = j) (hreach : len ≤ 1000000000) (hb : b < n₀) (J Jx : List Ent → World → Prop)
    (hY : ∀ pre x W, J pre W → pre.length < len → YieldAt F (n - 1) Try.prog l #[.int .i64 (x.i : Int), .agg #[.int .i64 x.n, x.v]] W fun e W' =>
      (e = .returned (.bool true) ∧ J (pre ++ [x]) W' ∧ Below n₀ W W') ∨ (e = .returned (.bool false) ∧ Jx (pre ++ [x]) W'))
    (W : World) (hBs : W.cell? ⟨Bs, 0, none⟩ = some (.slice (some ⟨b, 0, none⟩) len cap)) (hBk : ∀ W', Below n₀ W W' → W'.cell? ⟨Bs, 0, none⟩ = some (.slice (some ⟨b, 0, none⟩) len cap)) (hc : ∀ j, j < len → W.cell? ⟨b, j * 2, none⟩ = some (.int .i64 (E j).n) ∧ W.cell? ⟨b, j * 2 + 1, none⟩ = some (E j).v) (h0 : J [] W) :
    CallsIn F n Try.prog 58 #[.func (.yield l) #[] #[], .pointer (some ⟨Bs, 0, none⟩)] W fun e W' => (∃ v, e = .returned v) ∧
      ((∃ ys, ys = upto (fun j => E (len - 1 - j)) len ∧ J ys W') ∨ (∃ pre, (∃ k, k ≤ len ∧ pre = upto (fun j => E (len - 1 - j)) k) ∧ Jx pre W')) := by
  refine callsIn_of_wp Try.func58 rfl h8 ?_ hro
  simp only [Try.ntmps58, List.size_toArray, List.length_cons, List.length_nil, Nat.reduceAdd, Nat.reduceSub, Array.replicate_succ, Array.replicate_zero, List.push_toArray, List.append_toArray, List.nil_append, List.cons_append]
  gi_wp2
  gi_loopw [3] (fun i wr => ∃ k : Nat, k ≤ len ∧ i = .int .i64 ((len : Int) - 1 - k) ∧ J (upto (fun j => E (len - 1 - j)) k) wr ∧ Below n₀ W wr)
    (fun i _ => (intOf i + 1).toNat)
  case atStart => exact ⟨0, Nat.zero_le _, by simp, h0, Below.refl _ _⟩
  case round =>
    obtain ⟨k, hk, rfl, hJs, hnx⟩ := hrel
    have hBx := hBk wr hnx
    by_cases hlt : k < len
    · obtain ⟨m, hm⟩ : ∃ m : Nat, m = len - 1 - k := ⟨_, rfl⟩
      have hmi : (len : Int) - 1 - k = m := by omega
      have hml : m < len := by omega
      have c0 : wr.cell? ⟨b, m * 2, none⟩ = some (.int .i64 (E m).n) := (hnx.cell (p := ⟨b, m * 2, none⟩) hb).trans (hc m hml).1
      have c1 : wr.cell? ⟨b, m * 2 + 1, none⟩ = some (E m).v := (hnx.cell (p := ⟨b, m * 2 + 1, none⟩) hb).trans (hc m hml).2
      obtain ⟨fn, tmps, assign, body, hy, hR⟩ := hY _ (E m) wr hJs (by rw [upto_length]; exact hlt)
      rw [hE m] at hy
      have hfk : E m = E (len - 1 - k) := by rw [hm]
      obtain ⟨⟨xi, xn, xa, xl, xc⟩, hx⟩ : ∃ x, x = E m := ⟨_, rfl⟩
      rw [← hx] at c0 c1 hy hR hfk
      have HFK := Lib.hid hfk
      simp only [Ent.v] at hy c1
      rw [hmi]
      clear hm hx hfk
      gi_wp2
      refine hR.mono ?_
      rintro e W3 (⟨rfl, hJ3, hk3⟩ | ⟨rfl, hJx3⟩)
      · gi_wp2
        go_roundw
        case rel => exact ⟨k + 1, by omega, by simp; omega, by rw [upto_succ, ← HFK.out]; exact hJ3, hnx.trans hk3⟩
        case measure => first | (simp [intOf]; done) | (simp [intOf]; omega)
      · gi_wp2
        refine bodyPost_ret (results_none rfl _ _ _) rfl ?_
        exact ⟨⟨_, rfl⟩, .inr ⟨_, ⟨k + 1, by omega, by rw [upto_succ, HFK.out]⟩, hJx3⟩⟩
    · obtain rfl : k = len := by omega
      have hmi : (k : Int) - 1 - k = -1 := by omega
      rw [hmi]
      gi_wp2
      go_end0
      exact ⟨⟨_, rfl⟩, .inl ⟨_, rfl, hJs⟩⟩
set_option maxRecDepth 100000 in
set_option maxHeartbeats 1000000 in
theorem back1_nil_in (F : Fence) (n : Nat) (h8 : F.fn 58) (hro : F.round = none) (l Bs : Nat) (J : List Ent → World → Prop) (W : World) (hBs : W.cell? ⟨Bs, 0, none⟩ = some (.slice none 0 0)) (h0 : J [] W) :
    CallsIn F n Try.prog 58 #[.func (.yield l) #[] #[], .pointer (some ⟨Bs, 0, none⟩)] W fun e W' => (∃ v, e = .returned v) ∧ J [] W' := by
  refine callsIn_of_wp Try.func58 rfl h8 ?_ hro
  simp only [Try.ntmps58, List.size_toArray, List.length_cons, List.length_nil, Nat.reduceAdd, Nat.reduceSub, Array.replicate_succ, Array.replicate_zero, List.push_toArray, List.append_toArray, List.nil_append, List.cons_append]
  gi_wp2
  gi_loopw [3] (fun i wr => i = .int .i64 (-1) ∧ J [] wr) (fun _ _ => 0)
  case atStart => exact ⟨rfl, h0⟩
  case round =>
    obtain ⟨rfl, hJs⟩ := hrel
    gi_wp2
    go_end0
    exact ⟨⟨_, rfl⟩, hJs⟩
set_option maxRecDepth 100000 in
set_option maxHeartbeats 1000000 in
theorem back_in (F : Fence) (n : Nat) (h6 : F.fn 51) (hro : F.round = none) (a : Option Addr) (len cap : Nat) (w : World) :
    CallsIn F n Try.prog 51 #[.slice a len cap] w fun e w' => e = .returned (.func (.func 58) #[] #[.pointer (some ⟨w.heap.size, 0, none⟩)]) ∧ w' = w.alloc (.cells #[.slice a len cap] 66) := by
  refine callsIn_of_wp Try.func51 rfl h6 ?_ hro
  simp only [Try.ntmps51, List.size_toArray, List.length_cons, List.length_nil, Nat.reduceAdd, Nat.reduceSub, Array.replicate_succ, Array.replicate_zero, List.push_toArray, List.append_toArray, List.nil_append, List.cons_append]
  gi_wp2
  go_ret
  exact ⟨rfl, rfl⟩
/-- The slice of waiting writes, as entries. -/
def Ents (n₀ : Nat) (W : World) (sv : Value) (len : Nat) (E : Nat → Ent) : Prop :=
  (sv = .slice none 0 0 ∧ len = 0) ∨ ∃ b cap, sv = .slice (some ⟨b, 0, none⟩) len cap ∧ b < n₀ ∧ ∀ j, j < len → W.cell? ⟨b, j * 2, none⟩ = some (.int .i64 (E j).n) ∧ W.cell? ⟨b, j * 2 + 1, none⟩ = some (E j).v
theorem Ents.below {n₀ : Nat} {A B : World} (h : Below n₀ A B) {sv : Value} {len : Nat} {E : Nat → Ent} : Ents n₀ A sv len E → Ents n₀ B sv len E
  | .inl e => .inl e
  | .inr ⟨b, cap, e, hb, hc⟩ => .inr ⟨b, cap, e, hb, fun j hj => ⟨(h.cell (p := ⟨b, j * 2, none⟩) hb).trans (hc j hj).1, (h.cell (p := ⟨b, j * 2 + 1, none⟩) hb).trans (hc j hj).2⟩⟩
theorem back_stops (F : Fence) (n : Nat) (h8 : F.fn 58) (hro : F.round = none) (hn : 1 ≤ n) (Bs n₀ len : Nat) (sv : Value) (E : Nat → Ent) (hE : ∀ j, (E j).i = j) (hreach : len ≤ 1000000000) (w : World) (hBs : Bs < n₀) (hn₀ : n₀ ≤ w.heap.size)
    (hc : w.cell? ⟨Bs, 0, none⟩ = some sv) (hI : Ents n₀ w sv len E) :
    SeqStopsK F n Try.prog 58 #[.pointer (some ⟨Bs, 0, none⟩)] (fun x : Ent => #[Value.int .i64 (x.i : Int), .agg #[.int .i64 x.n, x.v]]) (Below n₀) (fun ys => ys = upto (fun j => E (len - 1 - j)) len)
      (fun pre => ∃ k, k ≤ len ∧ pre = upto (fun j => E (len - 1 - j)) k) len w := fun l J Jx W hW _ _ hY h0 => by
  have hW' := hW.mono hn₀
  have hc' := (hW'.cell (p := ⟨Bs, 0, none⟩) hBs).trans hc
  rcases hI.below hW' with ⟨rfl, rfl⟩ | ⟨b, cap, rfl, hb, hcs⟩
  · exact (back1_nil_in F n h8 hro l Bs J W hc' h0).mono fun e W' ⟨he, hj⟩ => ⟨he, .inl ⟨_, rfl, hj⟩⟩
  · exact back1_in F n h8 hro hn l Bs n₀ b len cap E hE hreach hb J Jx hY W hc' (fun W' h => (h.cell (p := ⟨Bs, 0, none⟩) hBs).trans hc') hcs h0
end Disk
end Go.Proofs.Ytooemgcijbdilaa
