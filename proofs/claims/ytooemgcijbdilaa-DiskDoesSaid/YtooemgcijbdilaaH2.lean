/- The disk in memory: Crash, now, Read. -/
import Derived.Test.YtooemgcijbdilaaH1
import Derived.RangeFuncNested
import Derived.RangeFuncBound
import Derived.RangeFuncCalls
import Derived.RangeFuncLeaves
import Derived.Shelf.Abstract
import Derived.Shelf.RegionOpen
import Derived.WalkKit
import Derived.OwnWalkIn
import Derived.TacticsInMore
import Derived.LoopNIn
import Derived.LoopIn
import Derived.Below
import Derived.Lib.Hide
import Derived.OwnWalk
import Derived.KernelRfl
import Derived.RowKit3
import Derived.Deep.LoopGhost
import Derived.Deep.QuietTactic
import Derived.BigQuiet
import Derived.WideLaws
import Derived.Great.BuildSlice
import Derived.Outline
import Derived.Deep.DeepCutAuto
import Derived.WalkSpells
import Derived.RegionTactic
import Derived.BigRegion
import Derived.WalkLawsBesides
namespace Go.Proofs.Ytooemgcijbdilaa
set_option linter.unusedVariables false
set_option linter.unusedSimpArgs false
open Go.RowKit Go.Shelf
attribute [local go_sem] Oper.semAt_some
namespace Disk
open Go.Disk
/-- A waiting write as a range hands it out: its place, its block, its bytes' slice. -/
structure Ent where
  i : Nat
  n : Int
  a : Option Addr
  l : Nat
  c : Nat
abbrev Ent.v (x : Ent) : Value := .slice x.a x.l x.c
def upto (f : Nat → Ent) (k : Nat) : List Ent := (List.range k).map f
theorem upto_succ (f : Nat → Ent) (k : Nat) : upto f (k + 1) = upto f k ++ [f k] := by simp [upto, List.range_succ]
theorem upto_length (f : Nat → Ent) (k : Nat) : (upto f k).length = k := by simp [upto]
set_option maxRecDepth 100000 in
set_option maxHeartbeats 2000000 in
theorem back1_in (F : Fence) (n : Nat) (h8 : F.fn 58) (hro : F.round = none) (hn : 1 ≤ n) (l Bs n₀ b len cap : Nat) (E : Nat → Ent) (hE : ∀ j, (E j).i = j) (hreach : len ≤ 1000000000) (hb : b < n₀) (J Jx : List Ent → World → Prop)
    (hY : ∀ pre x W, J pre W → pre.length < len → YieldAt F (n - 1) Try.prog l #[.int .i64 (x.i : Int), .agg #[.int .i64 x.n, x.v]] W fun e W' =>
      (e = .returned (.bool true) ∧ J (pre ++ [x]) W' ∧ Below n₀ W W') ∨ (e = .returned (.bool false) ∧ Jx (pre ++ [x]) W'))
    (W : World) (hBs : W.cell? ⟨Bs, 0, none⟩ = some (.slice (some ⟨b, 0, none⟩) len cap)) (hBk : ∀ W', Below n₀ W W' → W'.cell? ⟨Bs, 0, none⟩ = some (.slice (some ⟨b, 0, none⟩) len cap)) (hc : ∀ j, j < len → W.cell? ⟨b, j * 2, none⟩ = some (.int .i64 (E j).n) ∧ W.cell? ⟨b, j * 2 + 1, none⟩ = some (E j).v) (h0 : J [] W) :
    CallsIn F n Try.prog 58 #[.func (.yield l) #[] #[], .pointer (some ⟨Bs, 0, none⟩)] W fun e W' => (∃ v, e = .returned v) ∧
      ((∃ ys, ys = upto (fun j => E (len - 1 - j)) len ∧ J ys W') ∨ (∃ pre, (∃ k, k ≤ len ∧ pre = upto (fun j => E (len - 1 - j)) k) ∧ Jx pre W')) := by
  refine callsIn_of_wp Try.func58 rfl h8 ?_ hro
  simp only [Try.ntmps58, List.size_toArray, List.length_cons, List.length_nil, Nat.reduceAdd, Nat.reduceSub, Array.replicate_succ, Array.replicate_zero, List.push_toArray, List.append_toArray, List.nil_append, List.cons_append]
  gi_wp2
  gi_loopw [3] (fun i wr => ∃ k : Nat, k ≤ len ∧ i = .int .i64 ((len : Int) - 1 - k) ∧ J (upto (fun j => E (len - 1 - j)) k) wr ∧ Below n₀ W wr)
    (fun i _ => (intOf i + 1).toNat)
  case atStart => exact ⟨0, Nat.zero_le _, by simp, h0, Below.refl _ _⟩
  case round =>
    obtain ⟨k, hk, rfl, hJs, hnx⟩ := hrel
    have hBx := hBk wr hnx
    by_cases hlt : k < len
    · obtain ⟨m, hm⟩ : ∃ m : Nat, m = len - 1 - k := ⟨_, rfl⟩
      have hmi : (len : Int) - 1 - k = m := by omega
      have hml : m < len := by omega
      have c0 : wr.cell? ⟨b, m * 2, none⟩ = some (.int .i64 (E m).n) := (hnx.cell (p := ⟨b, m * 2, none⟩) hb).trans (hc m hml).1
      have c1 : wr.cell? ⟨b, m * 2 + 1, none⟩ = some (E m).v := (hnx.cell (p := ⟨b, m * 2 + 1, none⟩) hb).trans (hc m hml).2
      obtain ⟨fn, tmps, assign, body, hy, hR⟩ := hY _ (E m) wr hJs (by rw [upto_length]; exact hlt)
      rw [hE m] at hy
      have hfk : E m = E (len - 1 - k) := by rw [hm]
      obtain ⟨⟨xi, xn, xa, xl, xc⟩, hx⟩ : ∃ x, x = E m := ⟨_, rfl⟩
      rw [← hx] at c0 c1 hy hR hfk
      have HFK := Lib.hid hfk
      simp only [Ent.v] at hy c1
      rw [hmi]
      clear hm hx hfk
      gi_wp2
      refine hR.mono ?_
      rintro e W3 (⟨rfl, hJ3, hk3⟩ | ⟨rfl, hJx3⟩)
      · gi_wp2
        go_roundw
        case rel => exact ⟨k + 1, by omega, by simp; omega, by rw [upto_succ, ← HFK.out]; exact hJ3, hnx.trans hk3⟩
        case measure => first | (simp [intOf]; done) | (simp [intOf]; omega)
      · gi_wp2
        refine bodyPost_ret (results_none rfl _ _ _) rfl ?_
        exact ⟨⟨_, rfl⟩, .inr ⟨_, ⟨k + 1, by omega, by rw [upto_succ, HFK.out]⟩, hJx3⟩⟩
    · obtain rfl : k = len := by omega
      have hmi : (k : Int) - 1 - k = -1 := by omega
      rw [hmi]
      gi_wp2
      go_end0
      exact ⟨⟨_, rfl⟩, .inl ⟨_, rfl, hJs⟩⟩
set_option maxRecDepth 100000 in
set_option maxHeartbeats 1000000 in
theorem back1_nil_in (F : Fence) (n : Nat) (h8 : F.fn 58) (hro : F.round = none) (l Bs : Nat) (J : List Ent → World → Prop) (W : World) (hBs : W.cell? ⟨Bs, 0, none⟩ = some (.slice none 0 0)) (h0 : J [] W) :
    CallsIn F n Try.prog 58 #[.func (.yield l) #[] #[], .pointer (some ⟨Bs, 0, none⟩)] W fun e W' => (∃ v, e = .returned v) ∧ J [] W' := by
  refine callsIn_of_wp Try.func58 rfl h8 ?_ hro
  simp only [Try.ntmps58, List.size_toArray, List.length_cons, List.length_nil, Nat.reduceAdd, Nat.reduceSub, Array.replicate_succ, Array.replicate_zero, List.push_toArray, List.append_toArray, List.nil_append, List.cons_append]
  gi_wp2
  gi_loopw [3] (fun i wr => i = .int .i64 (-1) ∧ J [] wr) (fun _ _ => 0)
  case atStart => exact ⟨rfl, h0⟩
  case round =>
    obtain ⟨rfl, hJs⟩ := hrel
    gi_wp2
    go_end0
    exact ⟨⟨_, rfl⟩, hJs⟩
set_option maxRecDepth 100000 in
set_option maxHeartbeats 1000000 in
theorem back_in (F : Fence) (n : Nat) (h6 : F.fn 51) (hro : F.round = none) (a : Option Addr) (len cap : Nat) (w : World) :
    CallsIn F n Try.prog 51 #[.slice a len cap] w fun e w' => e = .returned (.func (.func 58) #[] #[.pointer (some ⟨w.heap.size, 0, none⟩)]) ∧ w' = w.alloc (.cells #[.slice a len cap] 66) := by
  refine callsIn_of_wp Try.func51 rfl h6 ?_ hro
  simp only [Try.ntmps51, List.size_toArray, List.length_cons, List.length_nil, Nat.reduceAdd, Nat.reduceSub, Array.replicate_succ, Array.replicate_zero, List.push_toArray, List.append_toArray, List.nil_append, List.cons_append]
  gi_wp2
  go_ret
  exact ⟨rfl, rfl⟩
/-- The slice of waiting writes, as entries. -/
def Ents (n₀ : Nat) (W : World) (sv : Value) (len : Nat) (E : Nat → Ent) : Prop :=
  (sv = .slice none 0 0 ∧ len = 0) ∨ ∃ b cap, sv = .slice (some ⟨b, 0, none⟩) len cap ∧ b < n₀ ∧ ∀ j, j < len → W.cell? ⟨b, j * 2, none⟩ = some (.int .i64 (E j).n) ∧ W.cell? ⟨b, j * 2 + 1, none⟩ = some (E j).v
theorem Ents.below {n₀ : Nat} {A B : World} (h : Below n₀ A B) {sv : Value} {len : Nat} {E : Nat → Ent} : Ents n₀ A sv len E → Ents n₀ B sv len E
  | .inl e => .inl e
  | .inr ⟨b, cap, e, hb, hc⟩ => .inr ⟨b, cap, e, hb, fun j hj => ⟨(h.cell (p := ⟨b, j * 2, none⟩) hb).trans (hc j hj).1, (h.cell (p := ⟨b, j * 2 + 1, none⟩) hb).trans (hc j hj).2⟩⟩
theorem back_stops (F : Fence) (n : Nat) (h8 : F.fn 58) (hro : F.round = none) (hn : 1 ≤ n) (Bs n₀ len : Nat) (sv : Value) (E : Nat → Ent) (hE : ∀ j, (E j).i = j) (hreach : len ≤ 1000000000) (w : World) (hBs : Bs < n₀) (hn₀ : n₀ ≤ w.heap.size)
    (hc : w.cell? ⟨Bs, 0, none⟩ = some sv) (hI : Ents n₀ w sv len E) :
    SeqStopsK F n Try.prog 58 #[.pointer (some ⟨Bs, 0, none⟩)] (fun x : Ent => #[Value.int .i64 (x.i : Int), .agg #[.int .i64 x.n, x.v]]) (Below n₀) (fun ys => ys = upto (fun j => E (len - 1 - j)) len)
      (fun pre => ∃ k, k ≤ len ∧ pre = upto (fun j => E (len - 1 - j)) k) len w := fun l J Jx W hW _ _ hY h0 => by
  have hW' := hW.mono hn₀
  have hc' := (hW'.cell (p := ⟨Bs, 0, none⟩) hBs).trans hc
  rcases hI.below hW' with ⟨rfl, rfl⟩ | ⟨b, cap, rfl, hb, hcs⟩
  · exact (back1_nil_in F n h8 hro l Bs J W hc' h0).mono fun e W' ⟨he, hj⟩ => ⟨he, .inl ⟨_, rfl, hj⟩⟩
  · exact back1_in F n h8 hro hn l Bs n₀ b len cap E hE hreach hb J Jx hY W hc' (fun W' h => (h.cell (p := ⟨Bs, 0, none⟩) hBs).trans hc') hcs h0
end Disk
end Go.Proofs.Ytooemgcijbdilaa
namespace Go.Proofs.Ytooemgcijbdilaa
set_option linter.unusedVariables false
set_option linter.unusedSimpArgs false
open Go.RowKit Go.Proofs.YtooemgcijbdilaaW.PrintWords Go.Proofs.YtooemgcijbdilaaW.PrintLast Go.Proofs.YtooemgcijbdilaaW.PrintMore
namespace Disk
open Go.Disk PDiskDoes
/-- A waiting write's cells. -/
theorem W_at {e : Nat} {w : World} {base sb : Nat} {vw : Value} {ws : List (Int × List Int)} (h : Kd.R kW e w base (fun k => k ≠ sb) vw ws) (j : Nat) (hj : j < ws.length) :
    ∃ g cap vb, vw = .slice (some ⟨g, 0, none⟩) ws.length cap ∧ w.cell? ⟨g, j * 2, none⟩ = some (.int .i64 (ws[j].1)) ∧ w.cell? ⟨g, j * 2 + 1, none⟩ = some vb ∧ Kd.R (Kd.int .u8) 5 w base (fun k => k ≠ sb) vb ws[j].2 ∧ g ≠ sb ∧ g < w.heap.size ∧ ws.length ≤ cap := by
  obtain ⟨h0, inner, ⟨hl, ho⟩, hr1, hr2⟩ := h
  have hm := hr2 j _ (List.getElem?_eq_getElem hj)
  obtain ⟨c0, c1, ee, hk0, vb, hk1, hR⟩ := hm
  rcases ho with ⟨_, hz⟩ | ⟨g, cap, cur, rfl, hbase, hb, hn, hmx, hcs, hcur⟩
  · omega
  · have hk0' : c0 = [.int .i64 ws[j].1] := hk0
    subst hk0' hk1
    have hcell : ∀ t, t < 2 → w.cell? ⟨g, j * 2 + t, none⟩ = ((inner.drop (j * 2)).take 2)[t]? := fun t ht => by
      have hsz : kW.sz = 2 := rfl
      rw [hsz] at hcur hcs hl
      rw [cell_blk hb, List.getElem?_take_of_lt ht, List.getElem?_drop, ← hcur, List.getElem?_take_of_lt (by omega), Array.getElem?_toList]
    have hsz : kW.sz = 2 := rfl
    rw [hsz] at ee
    rw [ee] at hcell
    have q0 := hcell 0 (by omega)
    have q1 := hcell 1 (by omega)
    simp at q0 q1
    refine ⟨g, cap, vb, rfl, q0, q1, Kd.R_mono hR (fun k hk => hk.1), ?_, blk_lt hb, hn⟩
    exact h0 g rfl
def crashTo : Dk → List (Int × List Int) → List Int → Dk
  | D, p :: ws, m :: ms => crashTo (tearD D p.1.toNat p.2 m) ws ms
  | D, _, _ => D
theorem crashTo_snoc : ∀ (ws : List (Int × List Int)) (ms : List Int) (D : Dk) (p : Int × List Int) (m : Int), ws.length = ms.length → crashTo D (ws ++ [p]) (ms ++ [m]) = tearD (crashTo D ws ms) p.1.toNat p.2 m
  | [], [], D, p, m, _ => rfl
  | q :: ws, n :: ms, D, p, m, h => by
    show crashTo (tearD D q.1.toNat q.2 n) (ws ++ [p]) (ms ++ [m]) = tearD (crashTo (tearD D q.1.toNat q.2 n) ws ms) p.1.toNat p.2 m
    exact crashTo_snoc ws ms _ p m (by simpa using h)
  | [], _ :: _, _, _, _, h => by simp at h
  | _ :: _, [], _, _, _, h => by simp at h
theorem crashTo_next (D : Dk) (ws : List (Int × List Int)) (ms : List Int) (i : Nat) (h1 : i < ws.length) (h2 : i < ms.length) : crashTo D (ws.take (i + 1)) (ms.take (i + 1)) = tearD (crashTo D (ws.take i) (ms.take i)) ws[i].1.toNat ws[i].2 ms[i] := by
  rw [List.take_succ_eq_append_getElem h1, List.take_succ_eq_append_getElem h2]
  exact crashTo_snoc _ _ _ _ _ (by rw [List.length_take, List.length_take]; omega)
theorem crashTo_all (D : Dk) : ∀ (ws : List (Int × List Int)) (ms : List Int) (n : Nat), n = min ws.length ms.length → crashTo D (ws.take n) (ms.take n) = crashTo D ws ms := by
  intro ws
  induction ws generalizing D with
  | nil => intro ms n h; simp [crashTo]
  | cons p ws ih =>
    intro ms n h
    cases ms with
    | nil => simp at h; subst h; rfl
    | cons m ms =>
      simp at h
      obtain ⟨k, rfl⟩ : ∃ k, n = k + 1 := ⟨n - 1, by omega⟩
      exact ih _ ms k (by omega)
theorem crashTo_safe : ∀ (ws : List (Int × List Int)) (ms : List Int) (D : Dk), (crashTo D ws ms).safe.length = D.safe.length ∧ (crashTo D ws ms).waits = D.waits
  | p :: ws, m :: ms, D => by
    have h := crashTo_safe ws ms (tearD D p.1.toNat p.2 m)
    refine ⟨h.1.trans ?_, h.2⟩
    show (D.safe.set _ _).length = _
    rw [List.length_set]
  | [], _, D => ⟨by cases ‹List Int› <;> rfl, by cases ‹List Int› <;> rfl⟩
  | _ :: _, [], D => ⟨rfl, rfl⟩
def crashD (D : Dk) (ms : List Int) : Dk := { crashTo D D.waits ms with waits := [], off := false, left := -1 }
theorem calm_ok {D : Dk} (h : Ok D) : Ok { D with waits := [], off := false, left := -1 } := ⟨h.few, h.len, h.byte, fun p hp => by simp at hp, by show (-1 : Int) ≤ -1; omega, by show (-1 : Int) ≤ 9223372036854775807; omega⟩
set_option maxHeartbeats 8000000 in
set_option maxRecDepth 100000 in
theorem crash_any {w : World} {base db sb : Nat} {D : Dk} (h : PD w base db sb D) (A : Option Addr) (c : Nat) (ms : List Int) (hC : Kd.C (Kd.int .i64) w A ms.length ms) (hc : ms.length ≤ c) (hCs : ∀ x, Fr (fun k => k = sb) (fun _ _ => False) w x → Kd.C (Kd.int .i64) x A ms.length ms) :
    Calls Try.prog 12 #[.pointer (some ⟨db, 0, none⟩), .slice A ms.length c] w fun e w' => (∃ v, e = .returned v) ∧ PD w' base db sb (crashD D ms) ∧ FP base db sb w w' := by
  have HPD := Aside0.mk h
  obtain ⟨vw, cs, sp, h⟩ := h
  have HX := Aside0.mk h
  have HC := Aside0.mk hCs
  obtain ⟨AW, cW, rfl, hcW, _⟩ := Kd.R_reads h.waits
  have c1 : w.cell? ⟨db, 1, none⟩ = some (.slice AW D.waits.length cW) := cell_blk h.cells
  have hmb : ms.length ≤ 9223372036854775807 := hC.2.1
  clear h hC hCs
  obtain ⟨n, hn⟩ : ∃ n, n = min D.waits.length ms.length := ⟨_, rfl⟩
  have HN := Aside0.mk hn
  clear hn
  go_enter Try.func12, Try.ntmps12
  go_wp2_with fail
  have hm1 : ∀ m : Go.Reg.In (fun x => x = w.drew), m.w.cell? ⟨db, 1, none⟩ = some (.slice AW D.waits.length cW) := fun m => by rw [m.h]; exact c1
  have hmin : ((min (D.waits.length : Int) (ms.length : Int)) : Int) = n := by have := HN.out; omega
  have q1 : (n : Int) ≤ cW := by have := HN.out; omega
  refine Go.Reg.region (fun x => x = w.drew) [.s, .s, .s, .s, .s, .s, .s, .s, .s, .s, .s, .s, .s, .s, .s] (by kernel_rfl) (by kernel_rfl) rfl (fun ne => ?_)
  refine Go.Reg.lex_q 15 _ _ _ _ (by rfl) ?_; simp only [List.take_succ_cons, List.take_zero, List.drop_succ_cons, List.drop_zero]; (repeat (go_big_quiet_step (rfl)))
  have hite : (if ms.length < D.waits.length then (ms.length : Int) else (D.waits.length : Int)) = (n : Int) := by
    have := HN.out
    split <;> omega
  have hmx : max (n : Int) 0 = n := by omega
  simp only [hite, Int.toNat_natCast, hmx]
  refine wpQuiet_nil ?_
  refine Go.Reg.lex_nil ?_
  go_wp2_with fail
  clear hm1 hite hmx hmin
  have HN1 := Aside0.mk (show n ≤ D.waits.length ∧ n ≤ ms.length by have := HN.out; omega)
  obtain ⟨W, hW⟩ : ∃ W, W = w.drew := ⟨_, rfl⟩
  rw [← hW]
  have HFW := Aside0.mk (show Fr (fun k => k = sb) (fun _ _ => False) w W by rw [hW]; exact .of_below (below_drew1 (Below.refl _ _)))
  have HPW := Aside0.mk (show PD W base db sb D by rw [hW]; exact HPD.out.below (below_drew1 (Below.refl _ _)))
  clear hW
  go_loopg [22, 4, 5] n (fun g v22 v4 v5 wr => ∃ (i : Nat), Aside0 (i + g = n) ∧ v22 = .int .i64 i ∧ Aside0 (PD wr base db sb (crashTo D (D.waits.take i) (ms.take i))) ∧ Aside0 (Fr (fun k => k = sb) (fun _ _ => False) w wr))
  case atStart => exact ⟨0, ⟨by omega⟩, rfl, by simpa [crashTo] using HPW, HFW⟩
  case round =>
    clear HPW HFW
    obtain ⟨i, HI, rfl, HP, HF⟩ := hrel
    have hws := (crashTo_safe (D.waits.take i) (ms.take i) D)
    have HWS := Aside0.mk hws
    clear hws
    by_cases hi : i < n
    · have hiw : i < D.waits.length := by have := HN1.out; omega
      have him : i < ms.length := by have := HN1.out; omega
      obtain ⟨g, cap, vb, hvw, hw0, hw1, hwr, hgs, hgl, _⟩ := W_at HX.out.waits i hiw
      cases hvw
      obtain ⟨ab, cb, hvb, hcb, _⟩ := Kd.R_reads hwr
      subst hvb
      have hat := HX.out.ok.at_ _ (List.getElem_mem hiw)
      obtain ⟨N, hN⟩ : ∃ N, N = D.waits[i].1 := ⟨_, rfl⟩
      obtain ⟨bs, hbs⟩ : ∃ bs, bs = D.waits[i].2 := ⟨_, rfl⟩
      rw [← hN, ← hbs] at hat
      rw [← hN] at hw0
      rw [← hbs] at hw1 hwr hcb
      have HNX := Aside0.mk (crashTo_next D D.waits ms i hiw him)
      rw [← hN, ← hbs] at HNX
      clear hN hbs
      have g0 : wr.cell? ⟨g, i * 2, none⟩ = some (.int .i64 N) := ((World.cell?_of_block (w := w) (HF.out.block g hgl hgs (fun _ _ _ _ h => h)))).trans hw0
      have g1 : wr.cell? ⟨g, i * 2 + 1, none⟩ = some (.slice ab bs.length cb) := ((World.cell?_of_block (w := w) (HF.out.block g hgl hgs (fun _ _ _ _ h => h)))).trans hw1
      have HWR := Aside0.mk hwr
      have HAT := Aside0.mk hat
      clear hw0 hw1 hwr hat
      obtain ⟨aw, haw, _⟩ := Kd.at_int (Kd.R_reads' HWR.out).2.2 0 (by omega) (by have := HAT.out.2.2.1; omega)
      subst haw
      go_wp2_with fail
      obtain ⟨V, hV⟩ : ∃ V, V = wr.alloc (.cells #[.int .i64 N, .slice (some aw) bs.length cb] 77) := ⟨_, rfl⟩
      have hal : Below wr.heap.size wr V := by rw [hV]; exact (Below.refl _ _).alloc (Nat.le_refl _) _
      have hbx : V.heap[wr.heap.size]? = some (.cells #[.int .i64 N, .slice (some aw) bs.length cb] 77 (0, 0)) := by rw [hV]; exact heap_alloc_new wr _
      rw [← hV]
      have HBX := Aside0.mk hbx
      have HAL := Aside0.mk hal
      clear hV hal hbx g0 g1
      have HFV := Aside0.mk (HF.out.trans ((Fr.of_below HAL.out).trans (Fr.of_below (below_drew1 (Below.refl V.heap.size V)))))
      obtain ⟨am, ham, hcm⟩ := Kd.at_int (HC.out _ HFV.out) (i : Int) (by omega) (by omega)
      subst ham
      rw [Int.toNat_natCast] at hcm
      obtain ⟨mk, hmk⟩ : ∃ mk, mk = rd ms i := ⟨_, rfl⟩
      have HMK := Aside0.mk (show mk = ms[i] by rw [hmk]; unfold rd; simp [him])
      rw [← hmk] at hcm
      clear hmk
      have hm0 : ∀ m : Go.Reg.In (fun x => x = V.drew), m.w.cell? ⟨wr.heap.size, 0, none⟩ = some (.int .i64 N) := fun m => by rw [m.h]; exact cell_blk (w := V) HBX.out
      have hm1 : ∀ m : Go.Reg.In (fun x => x = V.drew), m.w.cell? ⟨wr.heap.size, 1, none⟩ = some (.slice (some aw) bs.length cb) := fun m => by rw [m.h]; exact cell_blk (w := V) HBX.out
      have hm2 : ∀ m : Go.Reg.In (fun x => x = V.drew), m.w.cell? (am.add i) = some (.int .i64 mk) := fun m => by rw [m.h]; exact hcm
      refine Go.Reg.region (fun x => x = V.drew) [.s, .s, .s, .s, .s, .s, .x] (by kernel_rfl) (by kernel_rfl) rfl (fun ne => ?_)
      refine Go.Reg.lex_q 6 _ _ _ _ (by rfl) ?_; simp only [List.take_succ_cons, List.take_zero, List.drop_succ_cons, List.drop_zero]; (repeat (go_big_quiet_step (rfl))); refine wpQuiet_nil ?_
      refine Go.Reg.step_x (by rfl) (fun K hK => ?_)
      clear hm0 hm1 hm2 hcm
      go_wp2_with fail
      have hwl := HF.out.size
      refine (tear_any ((HP.out.below HAL.out).below (below_drew1 (Below.refl _ _))) N aw cb bs mk ?tN HAT.out.2.2.1 (by have := HAT.out.2.2.1; omega) ?tC HAT.out.2.2.2).mono ?_
      case tN => rw [HWS.out.1]; exact ⟨HAT.out.1, HAT.out.2.1⟩
      case tC => exact fun x hx => (Kd.R_reads' (Kd.R_step HWR.out (fun j hj hlt => (hx j (Nat.lt_of_lt_of_le hlt (Nat.le_trans hwl HAL.out.size)) hj).trans ((HAL.out.block j (by omega)).trans (HF.out.block j hlt hj (fun _ _ _ _ h => h)))))).2.2
      rintro e w5 ⟨⟨v5, rfl⟩, hp5, hf5⟩
      have HP5 := Aside0.mk hp5
      have HF5 := Aside0.mk (HFV.out.trans hf5)
      clear hp5 hf5
      go_wp2_with fail
      refine hK.out _ _ ?_
      clear hK K
      refine Go.Reg.lex_nil ?_
      have hnm := HN1.out.2
      go_wp2_with fail
      go_roundg (gk - 1)
      case measure => have := HI.out; omega
      case rel => exact ⟨i + 1, ⟨by have := HI.out; omega⟩, by go_num, ⟨by rw [HNX.out, ← HMK.out]; exact HP5.out⟩, HF5⟩
    · have hin : i = n := by have := HI.out; omega
      subst hin
      rw [crashTo_all D D.waits ms i HN.out] at HP
      obtain ⟨vw', cs', sp', hx⟩ := HP.out
      have c1 : wr.cell? ⟨db, 1, none⟩ = some vw' := cell_blk hx.cells
      have c2 : wr.cell? ⟨db, 2, none⟩ = some (.int .i64 (crashTo D D.waits ms).left) := cell_blk hx.cells
      have c3 : wr.cell? ⟨db, 3, none⟩ = some (.bool (crashTo D D.waits ms).off) := cell_blk hx.cells
      have f1 : wr.frozen? ⟨db, 1, none⟩ = false := frozen_blk hx.cells
      have f2 : wr.frozen? ⟨db, 2, none⟩ = false := frozen_blk hx.cells
      have f3 : wr.frozen? ⟨db, 3, none⟩ = false := frozen_blk hx.cells
      have HXX := Aside0.mk hx
      clear hx
      go_wp2_with fail
      go_end0
      have hx := HXX.out
      have hok := calm_ok hx.ok
      have hb3 := blk_set (blk_set (blk_set hx.cells 1 (.slice none 0 0)) 3 (.bool false)) 2 (.int .i64 (-1))
      have hne := hx.ne
      refine ⟨⟨_, rfl⟩, ⟨.slice none 0 0, cs', sp', hok, hx.dbase, hx.sbase, fun _ h => by simp [Value.ownBlock] at h, ?_, Kd.R_nil _ _ _ _ _, ?_, hx.room⟩, ?_⟩
      · rw [hb3]
        rfl
      · rw [Below.heap_setCell _ _ _ _ (Ne.symm hne), Below.heap_setCell _ _ _ _ (Ne.symm hne), Below.heap_setCell _ _ _ _ (Ne.symm hne)]
        exact hx.safe
      · exact (HF.out.mono (fun _ h => .inr h) (fun _ _ h => h.elim)).trans (((Fr.set _ _ _ _ (.inl rfl)).trans (Fr.set _ _ _ _ (.inl rfl))).trans (Fr.set _ _ _ _ (.inl rfl)))
end Disk
end Go.Proofs.Ytooemgcijbdilaa
namespace Go.Proofs.Ytooemgcijbdilaa
set_option linter.unusedVariables false
set_option linter.unusedSimpArgs false
open Go.RowKit Go.Shelf Go.Proofs.YtooemgcijbdilaaW.PrintWords Go.Proofs.YtooemgcijbdilaaW.PrintLast Go.Proofs.YtooemgcijbdilaaW.PrintMore
attribute [local go_sem] Oper.semAt_some
namespace Disk
open Go.Disk
theorem cells_kept {W W' : World} {row : Option Nat} {B t : Nat} {cs : Array Value} (h : W.heap[B]? = some (.cells cs t (0, 0))) (hg : W.grownBy W' row) (hr : ∀ r, row = some r → ∃ o : Obj, W.heap[r]? = some o ∧ o.isCells = false) : W'.heap[B]? = some (.cells cs t (0, 0)) :=
  (hg.block B (blk_lt h) (fun e => by obtain ⟨o, ho, hc⟩ := hr B e.symm; rw [h] at ho; cases ho; cases hc)).trans h
set_option maxRecDepth 100000 in
set_option maxHeartbeats 4000000 in
theorem now_v {w : World} {base db sb : Nat} {D : Dk} {vw : Value} {cs : Nat} {sp : List Value} (h : PDx w base db sb D vw cs sp) (N : Nat) (hN : N < D.safe.length) (E : Nat → Ent) (hE : ∀ j, (E j).i = j) (len : Nat) (hreach : len ≤ 1000000000) (hI : Ents w.heap.size w vw len E) :
    Calls Try.prog 36 #[.pointer (some ⟨db, 0, none⟩), .int .i64 N] w fun e W' =>
      ((∃ j, j < len ∧ (E j).n = N ∧ (∀ i, j < i → i < len → (E i).n ≠ N) ∧ e = .returned (E j).v) ∨ ((∀ j, j < len → (E j).n ≠ N) ∧ e = .returned (.slice (some ⟨sb, N * 256, none⟩) 256 256))) ∧ Below w.heap.size w W' := by
  refine (callsIn_wide (n := 4)).1 ?_
  obtain ⟨A, L, C, hvw⟩ : ∃ A L C, vw = .slice A L C := by
    rcases hI with ⟨rfl, _⟩ | ⟨b, cap, rfl, _⟩
    · exact ⟨_, _, _, rfl⟩
    · exact ⟨_, _, _, rfl⟩
  subst hvw
  have HX := Aside0.mk h
  have c1 : w.cell? ⟨db, 1, none⟩ = some (.slice A L C) := cell_blk h.cells
  have hdb : db < w.heap.size := blk_lt h.cells
  have hro : Fence.wide.round = none := rfl
  have hf1 : Fence.wide.fn 51 := trivial
  have hf2 : Fence.wide.fn 58 := trivial
  have h1 : 1 ≤ 4 := by omega
  clear h
  refine callsIn_of_wp_marks Try.func36 rfl trivial ?_ hro
  simp only [Try.ntmps36, List.size_toArray, List.length_cons, List.length_nil, Nat.reduceAdd, Nat.reduceSub, Array.replicate_succ, Array.replicate_zero, List.push_toArray, List.append_toArray, List.nil_append, List.cons_append]
  gi_wp2_with (gi_at_call 51; refine (back_in Fence.wide _ trivial hro _ _ _ _).mono ?_; rintro e w' ⟨rfl, rfl⟩)
  have bN := Boxed.new w 3 (.int .i64 N)
  have bR := Boxed.new (w.alloc (.cells #[.int .i64 N] 3)) 30 (.slice none 0 0)
  have bS := Boxed.new ((w.alloc (.cells #[.int .i64 N] 3)).alloc (.cells #[.slice none 0 0] 30)) 66 (.slice A L C)
  rw [World.size_alloc] at bR
  rw [World.size_alloc, World.size_alloc] at bS
  obtain ⟨W0, hW0⟩ : ∃ W0, W0 = ((w.alloc (.cells #[.int .i64 N] 3)).alloc (.cells #[.slice none 0 0] 30)).alloc (.cells #[.slice A L C] 66) := ⟨_, rfl⟩
  have hs0 : W0.heap.size = w.heap.size + 1 + 1 + 1 := by rw [hW0]; simp
  have hB0 : Below w.heap.size w W0 := by rw [hW0]; exact (((Below.refl _ w).alloc (Nat.le_refl _) _).alloc (by simp) _).alloc (by simp; omega) _
  replace bN := (bN.alloc (.cells #[.slice none 0 0] 30)).alloc (.cells #[.slice A L C] 66)
  replace bR := bR.alloc (.cells #[.slice A L C] 66)
  rw [← hW0] at bN bR bS
  rw [← hW0]
  clear hW0
  refine wpIn_rangeFunc_ownH hro h1 (gf := 58) (lb := #[.pointer (some ⟨w.heap.size + 1 + 1, 0, none⟩)]) rfl hf2 (enters_of Try.func58 (by kernel_rfl) rfl)
    (back_stops Fence.wide 3 hf2 hro (by omega) (w.heap.size + 1 + 1) (w.heap.size + 1 + 1 + 1) len _ E hE hreach W0 (by omega) (by omega) bS.cell ?ents) belowK_t (belowK_b (by omega)) (Below.refl _ _) (fun _ => rfl)
    (fun (pre : List Ent) W => ((∀ y ∈ pre, y.n ≠ N) ∧ Boxed W w.heap.size 3 (.int .i64 N) ∧ Boxed W (w.heap.size + 1) 30 (.slice none 0 0) ∧ W0.heap.size ≤ W.heap.size) ∧ Below w.heap.size w W)
    (fun c pre W => (c = .ret ∧ ∃ (ini : List Ent) (last : Ent), pre = ini ++ [last] ∧ (∀ y ∈ ini, y.n ≠ N) ∧ last.n = N ∧ Boxed W (w.heap.size + 1) 30 last.v) ∧ Below w.heap.size w W)
    ?hI ?hIx ⟨⟨by simp, bN, bR, Nat.le_refl _⟩, hB0⟩
    (fun x a' W => ∃ Bx, w.heap.size + 1 + 1 < Bx ∧ Bx < W.heap.size ∧ W.heap[Bx]? = some (.cells #[.int .i64 x.n, x.v] 77 (0, 0)) ∧ a' = { tmps := #[.pointer (some ⟨db, 0, none⟩), .int .i64 N, undef, .pointer (some ⟨w.heap.size, 0, none⟩), .pointer (some ⟨w.heap.size + 1, 0, none⟩), undef, .pointer (some ⟨Bx, 0, none⟩), .pointer (some ⟨db, 0, none⟩), .pointer (some ⟨db, 0, none⟩), .pointer (some ⟨db, 1, none⟩), .slice A L C, .func (.func 58) #[] #[.pointer (some ⟨w.heap.size + 1 + 1, 0, none⟩)], .int .i64 (x.i : Int), .agg #[.int .i64 x.n, x.v], undef, undef, undef, undef, undef, undef, undef, undef, undef, undef, undef, undef], defers := [] })
    ?hAx ?assign ?body ?done ?stop
  case ents =>
    have h2 : Ents w.heap.size W0 (.slice A L C) len E := hI.below hB0
    rcases h2 with h2 | ⟨b, cap, h3, h4, h5⟩
    · exact .inl h2
    · exact .inr ⟨b, cap, h3, by omega, h5⟩
  case hI => exact OwnFrom.and (Own.from (fun s X Y row hs hg hr => ⟨hs.1, cells_kept hs.2.1 hg hr, cells_kept hs.2.2.1 hg hr, Nat.le_trans hs.2.2.2 hg.size⟩) _) (ownFrom_below (Nat.le_refl _) (by omega))
  case hIx => exact fun c => OwnFrom.and (Own.from (fun s X Y row hs hg hr => by obtain ⟨hc, ini, last, e1, e2, e3, e4⟩ := hs; exact ⟨hc, ini, last, e1, e2, e3, cells_kept e4 hg hr⟩) _) (ownFrom_below (Nat.le_refl _) (by omega))
  case hAx => exact fun x a' _ X Y row hs hg hr => by obtain ⟨Bx, h1, h2, h3, h4⟩ := hs; exact ⟨Bx, h1, Nat.lt_of_lt_of_le h2 hg.size, cells_kept h3 hg (fun r e => (hr r e).2), h4⟩
  case assign =>
    rintro l pre x W K ⟨⟨hp, b1, b2, hsz⟩, hB⟩ hK
    gi_wp2
    exact hK _ _ ((KeepsOthers.alloc _ _).from _) ((Below.refl _ W).alloc (by omega) _) ⟨⟨hp, b1.alloc _, b2.alloc _, by simp; omega⟩, hB.alloc hB.size _⟩ ⟨W.heap.size, by omega, by simp, heap_alloc_new W _, rfl⟩
  case body =>
    rintro l pre x a' W hl ⟨r, hr⟩ ⟨⟨hp, b1, b2, hsz⟩, hB⟩ ⟨Bx, hBx, hBl, bX, rfl⟩ hlt
    obtain ⟨xi, xn, xa, xl, xc⟩ := x
    have x0 : W.cell? ⟨Bx, 0, none⟩ = some (.int .i64 xn) := cell_blk bX
    have x1 : W.cell? ⟨Bx, 1, none⟩ = some (.slice xa xl xc) := cell_blk bX
    have cN := b1.cell
    have cR := b2.cell
    have fR := b2.frozen
    by_cases hx : xn = N
    · subst hx
      gi_wp2
      exact ⟨(KeepsOthers.setCell _ _ _).from _, ⟨rfl, pre, ⟨xi, N, xa, xl, xc⟩, rfl, hp, rfl, blk_set b2 0 (.slice xa xl xc)⟩, hB.setCell (p := ⟨w.heap.size + 1, 0, none⟩) (by simp) _⟩
    · have hxb : (xn == (N : Int)) = false := by simpa using hx
      gi_wp2
      exact ⟨KeepsFrom.refl _ _, Below.refl _ _, ⟨fun y hy => (List.mem_append.1 hy).elim (hp y) (fun e => by simp at e; subst e; exact hx), b1, b2, by omega⟩, hB⟩
  case done =>
    rintro D' ys W hD rfl ⟨⟨hp, b1, b2, hsz⟩, hB⟩ hK
    have cN := b1.cell
    have cR := b2.cell
    have fR := b2.frozen
    have hx := HX.out.below hB
    have d0 : W.cell? ⟨db, 0, none⟩ = some (.slice (some ⟨sb, 0, none⟩) (D.safe.length * 256) cs) := by rw [← flatLen hx.ok]; exact cell_blk hx.cells
    have hroom : D.safe.length * 256 ≤ cs := by have := hx.room; have := flatLen hx.ok; omega
    have hfew := hx.ok.few
    have HP := Aside0.mk hp
    clear hx hp
    gi_wp2
    refine wpIn_wide.2 ?_
    have m0 : ∀ m : Go.Reg.In (fun x => x = W.drew), m.w.cell? ⟨db, 0, none⟩ = some (.slice (some ⟨sb, 0, none⟩) (D.safe.length * 256) cs) := fun m => by rw [m.h]; exact d0
    have m1 : ∀ m : Go.Reg.In (fun x => x = W.drew), m.w.cell? ⟨w.heap.size, 0, none⟩ = some (.int .i64 N) := fun m => by rw [m.h]; exact cN
    refine Go.Reg.region (fun x => x = W.drew) [.s, .s, .s, .s, .s, .x, .x] (by kernel_rfl) (by kernel_rfl) rfl (fun ne => ?_)
    refine Go.Reg.lex_q 5 _ _ _ _ (by rfl) ?_; simp only [List.take_succ_cons, List.take_zero, List.drop_succ_cons, List.drop_zero]; (repeat (go_big_quiet_step (rfl))); refine wpQuiet_nil ?_
    refine Go.Reg.step_x (by rfl) (fun K hKK => ?_)
    go_wp2_with fail
    refine (block_at sb D.safe.length cs N hN (by omega) hroom).mono ?_
    rintro e w1 ⟨rfl, rfl⟩
    go_wp2_with fail
    refine hKK.out _ _ ?_
    clear hKK K
    refine Go.Reg.step_x (by rfl) (fun K hKK => ?_)
    go_wp2_with fail
    refine hKK.out _ _ ?_
    clear hKK K
    refine Go.Reg.lex_nil ?_
    gi_wp2
    obtain ⟨V, hV⟩ : ∃ V, V = (W.setCell ⟨w.heap.size + 1, 0, none⟩ (.slice (some ⟨sb, N * 256, none⟩) 256 256)).drew := ⟨_, rfl⟩
    have hK' : V.heap[D']? = some (.deferred (some [])) := by rw [hV]; exact (KeepsOthers.setCell W ⟨w.heap.size + 1, 0, none⟩ (.slice (some ⟨sb, N * 256, none⟩) 256 256)).same D' _ hK rfl
    have hv : V.heap[w.heap.size + 1]? = some (.cells #[.slice (some ⟨sb, N * 256, none⟩) 256 256] 30 (0, 0)) := by rw [hV]; exact blk_set b2 0 _
    have hBV : Below w.heap.size w V := by rw [hV]; exact below_drew1 (hB.setCell (p := ⟨w.heap.size + 1, 0, none⟩) (by simp) _)
    rw [← hV]
    refine ⟨by simp, .inl ⟨_, _, rfl, run_takeDeferred hK', ?_⟩⟩
    have hc5 := cell_kept (show V.cell? ⟨w.heap.size + 1, 0, none⟩ = some (.slice (some ⟨sb, N * 256, none⟩) 256 256) from cell_blk hv) (grownBy_putObj' _ D' (.deferred none)) (fun r e => by cases e; exact ⟨_, hK', rfl⟩)
    refine ⟨.slice (some ⟨sb, N * 256, none⟩) 256 256, ?_, .inr ⟨fun j hj => ?_, rfl⟩, hBV.trans (belowK_b (w := w) (Nat.le_refl _) V D' _ _ (by omega) hK' rfl rfl)⟩
    · simp [results, Try.f36, go_sem, hc5]
    · have h1 := HP.out (E j) (by
        simp only [upto, List.mem_map, List.mem_range]
        exact ⟨len - 1 - j, by omega, by rw [show len - 1 - (len - 1 - j) = j by omega]⟩)
      exact h1
  case stop =>
    rintro D' c pre W hD ⟨k, hk, rfl⟩ ⟨⟨rfl, ini, last, e1, e2, e3, b2⟩, hB⟩ hK
    gi_wp2
    refine ⟨by simp, .inl ⟨_, _, rfl, run_takeDeferred hK, ?_⟩⟩
    obtain ⟨k', rfl⟩ : ∃ k', k = k' + 1 := by
      cases k with
      | zero => simp [upto] at e1
      | succ k' => exact ⟨k', rfl⟩
    rw [upto_succ] at e1
    obtain ⟨h5, h6⟩ := List.append_inj' e1 rfl
    obtain rfl : E (len - 1 - k') = last := by simpa using h6
    subst h5
    have hc5 := cell_kept b2.cell (grownBy_putObj' _ D' (.deferred none)) (fun r e => by cases e; exact ⟨_, hK, rfl⟩)
    refine ⟨(E (len - 1 - k')).v, ?_, .inl ⟨len - 1 - k', by omega, e3, fun i hi1 hi2 => ?_, rfl⟩, hB.trans (belowK_b (w := w) (Nat.le_refl _) W D' _ _ (by omega) hK rfl rfl)⟩
    · simp [results, Try.f36, go_sem, hc5]
    · exact e2 (E i) (by
        simp only [upto, List.mem_map, List.mem_range]
        exact ⟨len - 1 - i, by omega, by rw [show len - 1 - (len - 1 - i) = i by omega]⟩)
end Disk
end Go.Proofs.Ytooemgcijbdilaa
namespace Go.Proofs.Ytooemgcijbdilaa
set_option linter.unusedVariables false
set_option linter.unusedSimpArgs false
open Go.RowKit Go.Proofs.YtooemgcijbdilaaW.PrintWords Go.Proofs.YtooemgcijbdilaaW.PrintLast Go.Proofs.YtooemgcijbdilaaW.PrintMore
namespace Disk
open Go.Disk PDiskDoes
/-- The last write of a block that waits. -/
def lastW : List (Int × List Int) → Int → Option (List Int)
  | [], _ => none
  | p :: ws, n => match lastW ws n with
    | some b => some b
    | none => if p.1 = n then some p.2 else none
theorem lastW_none : ∀ (ws : List (Int × List Int)) (n : Int), (∀ j (h : j < ws.length), ws[j].1 ≠ n) → lastW ws n = none
  | [], _, _ => rfl
  | p :: ws, n, h => by
    have h1 := lastW_none ws n (fun j hj => h (j + 1) (by simpa using hj))
    have h2 := h 0 (by simp)
    unfold lastW
    rw [h1]
    exact if_neg h2
theorem lastW_hit : ∀ (ws : List (Int × List Int)) (n : Int) (j : Nat) (hj : j < ws.length), ws[j].1 = n → (∀ i (h : i < ws.length), j < i → ws[i].1 ≠ n) → lastW ws n = some ws[j].2
  | p :: ws, n, 0, _, h, hl => by
    have h1 := lastW_none ws n (fun i hi => hl (i + 1) (by simpa using hi) (by omega))
    unfold lastW
    rw [h1]
    exact if_pos h
  | p :: ws, n, j + 1, hj, h, hl => by
    have h1 := lastW_hit ws n j (by simpa using hj) h (fun i hi hji => hl (i + 1) (by simpa using hi) (by omega))
    unfold lastW
    rw [h1]
    rfl
/-- A block as it was written last. -/
def nowD (D : Dk) (n : Int) : List Int := (lastW D.waits n).getD (D.safe.getD n.toNat [])
theorem safe_C {w : World} {base db sb cs : Nat} {D : Dk} {vw : Value} {sp : List Value} (h : PDx w base db sb D vw cs sp) (n : Nat) (hn : n < D.safe.length) : Kd.C (Kd.int .u8) w (some ⟨sb, n * 256, none⟩) 256 D.safe[n] := by
  have hl := h.ok.len _ (List.getElem_mem hn)
  have hb := flat_block h.ok.len n hn
  refine ⟨hl, by omega, fun _ => ⟨_, rfl, fun j p hj => ⟨[.int .u8 p], rfl, rfl, fun i u hu => ?_⟩⟩⟩
  have hjl : j < 256 := by
    rcases Nat.lt_or_ge j 256 with h' | h'
    · exact h'
    · rw [List.getElem?_eq_none (by omega)] at hj; cases hj
  have hi : i = 0 := by
    rcases Nat.eq_zero_or_pos i with h' | h'
    · exact h'
    · rw [List.getElem?_eq_none (by simp; omega)] at hu; cases hu
  subst hi
  simp at hu
  subst hu
  have hadd : (⟨sb, n * 256, none⟩ : Addr).add (j * (Kd.int .u8).sz + 0) = ⟨sb, n * 256 + j, none⟩ := by
    rw [show j * (Kd.int .u8).sz + 0 = j from by show j * 1 + 0 = j; omega]
    unfold Addr.add
    split <;> simp_all
  rw [hadd, cell_blk h.safe]
  rw [← hb, List.getElem?_take_of_lt hjl, List.getElem?_drop] at hj
  have hlt : n * 256 + j < D.safe.flatten.length := by
    rcases Nat.lt_or_ge (n * 256 + j) D.safe.flatten.length with h' | h'
    · exact h'
    · rw [List.getElem?_eq_none h'] at hj; cases hj
  rw [List.getElem?_toArray, List.getElem?_append_left (by rw [u8s_len]; exact hlt)]
  unfold u8s
  rw [List.getElem?_map, hj]
  rfl
theorem now_any {w : World} {base db sb : Nat} {D : Dk} (h : PD w base db sb D) (N : Int) (hN : 0 ≤ N ∧ N < D.safe.length) (hfew : D.waits.length ≤ 1000000000) :
    Calls Try.prog 36 #[.pointer (some ⟨db, 0, none⟩), .int .i64 N] w fun e W' => ∃ a c, e = .returned (.slice (some a) 256 c) ∧ 256 ≤ c ∧ Kd.C (Kd.int .u8) W' (some a) 256 (nowD D N) ∧ Below w.heap.size w W' := by
  obtain ⟨vw, cs, sp, h⟩ := h
  obtain ⟨n, rfl⟩ : ∃ n : Nat, N = n := ⟨N.toNat, by omega⟩
  have hn : n < D.safe.length := by omega
  have hrow := h.waits
  have hall : ∀ j, ∃ x : Ent, x.i = j ∧ ∀ hj : j < D.waits.length, ∃ g, x.n = D.waits[j].1 ∧ (∃ cap, vw = .slice (some ⟨g, 0, none⟩) D.waits.length cap) ∧ g < w.heap.size ∧ w.cell? ⟨g, j * 2, none⟩ = some (.int .i64 x.n) ∧ w.cell? ⟨g, j * 2 + 1, none⟩ = some x.v ∧ Kd.R (Kd.int .u8) 5 w 0 (fun k => k ≠ sb) x.v D.waits[j].2 := by
    intro j
    by_cases hj : j < D.waits.length
    · obtain ⟨g, cap, vb, hv, c0, c1, hr, _, hg, _⟩ := W_at hrow j hj
      obtain ⟨A, c, rfl⟩ := Kd.R_slice hr
      exact ⟨⟨j, D.waits[j].1, A, D.waits[j].2.length, c⟩, rfl, fun _ => ⟨g, rfl, ⟨cap, hv⟩, hg, c0, c1, hr⟩⟩
    · exact ⟨⟨j, 0, none, 0, 0⟩, rfl, fun h' => absurd h' hj⟩
  obtain ⟨E, hE⟩ := Classical.axiomOfChoice hall
  have hI : Ents w.heap.size w vw D.waits.length E := by
    by_cases hz : D.waits.length = 0
    · obtain ⟨h0, inner, ⟨hl, ho⟩, hr1, hr2⟩ := hrow
      rcases ho with ⟨hv, _⟩ | ⟨g, cap, cur, hv, _, hb, _⟩
      · exact .inl ⟨hv, hz⟩
      · exact .inr ⟨g, cap, hv, blk_lt hb, fun j hj => by omega⟩
    · obtain ⟨g0, _, ⟨cap, hv⟩, hg, _⟩ := (hE 0).2 (by omega)
      refine .inr ⟨g0, cap, hv, hg, fun j hj => ?_⟩
      obtain ⟨g, _, ⟨cap', hv'⟩, _, c0, c1, _⟩ := (hE j).2 hj
      rw [hv] at hv'
      cases hv'
      exact ⟨c0, c1⟩
  refine (now_v h n hn E (fun j => (hE j).1) D.waits.length hfew hI).mono ?_
  rintro e W' ⟨⟨j, hj, hjn, hjl, rfl⟩ | ⟨hno, rfl⟩, hB⟩
  · obtain ⟨g, en, _, _, _, _, hr⟩ := (hE j).2 hj
    obtain ⟨h1, h2, h3⟩ := Kd.R_reads' (Kd.R_below hr hB)
    have hlen := (h.ok.at_ _ (List.getElem_mem hj)).2.2.1
    have hnow : nowD D (n : Int) = D.waits[j].2 := by
      unfold nowD
      rw [lastW_hit D.waits n j hj (by rw [← en]; exact hjn) (fun i hi hji => by rw [← ((hE i).2 hi).choose_spec.1]; exact hjl i hji hi)]
      rfl
    obtain ⟨a, ha, _⟩ := Kd.at_int h3 0 (by omega) (by omega)
    rw [hlen] at h3
    refine ⟨a, (E j).c, ?_, by omega, ?_, hB⟩
    · unfold Ent.v
      rw [ha, h1, hlen]
    · rw [hnow, ← ha]
      exact h3
  · have hnow : nowD D (n : Int) = D.safe[n] := by
      unfold nowD
      rw [lastW_none D.waits n (fun j hj => by rw [← ((hE j).2 hj).choose_spec.1]; exact hno j hj)]
      simp [hn]
    refine ⟨⟨sb, n * 256, none⟩, 256, rfl, Nat.le_refl _, ?_, hB⟩
    rw [hnow]
    exact safe_C (h.below hB) n hn
/-- Behind a read. -/
def readD (D : Dk) : Dk := { D with reads := wrap64 (D.reads + 1) }
theorem cnt_ok {D D' : Dk} (h : Ok D) (h1 : D'.safe = D.safe) (h2 : D'.waits = D.waits) (h3 : D'.left = D.left) : Ok D' := ⟨by rw [h1]; exact h.few, by rw [h1]; exact h.len, by rw [h1]; exact h.byte, by rw [h1, h2]; exact h.at_, by rw [h3]; exact h.left⟩
theorem lastW_mem : ∀ (ws : List (Int × List Int)) (n : Int) (b : List Int), lastW ws n = some b → ∃ p ∈ ws, p.1 = n ∧ p.2 = b
  | p :: ws, n, b, h => by
    unfold lastW at h
    split at h
    · rename_i c hc
      obtain ⟨q, h1, h2⟩ := lastW_mem ws n c hc
      cases h
      exact ⟨q, List.mem_cons_of_mem _ h1, h2⟩
    · split at h
      · rename_i h1
        cases h
        exact ⟨p, List.mem_cons_self, h1, rfl⟩
      · cases h
theorem now_len {D : Dk} (h : Ok D) (n : Int) (hn : 0 ≤ n ∧ n < D.safe.length) : (nowD D n).length = 256 ∧ ∀ x ∈ nowD D n, 0 ≤ x ∧ x ≤ 255 := by
  unfold nowD
  cases hl : lastW D.waits n with
  | some b =>
    obtain ⟨p, h1, h2, rfl⟩ := lastW_mem _ _ _ hl
    exact (h.at_ p h1).2.2
  | none =>
    have hlt : n.toNat < D.safe.length := by omega
    have e : (none : Option (List Int)).getD (D.safe.getD n.toNat []) = D.safe[n.toNat] := by simp [hlt]
    rw [e]
    exact ⟨h.len _ (List.getElem_mem hlt), h.byte _ (List.getElem_mem hlt)⟩
set_option maxHeartbeats 8000000 in
set_option maxRecDepth 100000 in
theorem read_no {w : World} {base db sb : Nat} {D : Dk} (h : PD w base db sb D) (N : Int) (hr : ready D N ≠ 0) :
    Calls Try.prog 13 #[.pointer (some ⟨db, 0, none⟩), .int .i64 N] w fun e w' => e = .returned (.tuple #[.slice none 0 0, .int .i64 (ready D N)]) ∧ w' = w := by
  obtain ⟨r, hrr⟩ : ∃ r, r = ready D N := ⟨_, rfl⟩
  rw [← hrr] at hr ⊢
  have HR := Aside0.mk hrr
  clear hrr
  have hb : (r != 0) = true := by simpa using hr
  go_enter Try.func13, Try.ntmps13
  go_wp2_with fail
  refine (ready_any N h).mono ?_
  rintro e w1 ⟨rfl, rfl⟩
  rw [← HR.out]
  go_wp2_with fail
  go_ret2
  exact ⟨rfl, rfl⟩
set_option maxHeartbeats 8000000 in
set_option maxRecDepth 100000 in
theorem read_yes {w : World} {base db sb : Nat} {D : Dk} (h : PD w base db sb D) (N : Int) (hr : ready D N = 0) (hfew : D.waits.length ≤ 1000000000) :
    Calls Try.prog 13 #[.pointer (some ⟨db, 0, none⟩), .int .i64 N] w fun e w' => ∃ v, e = .returned (.tuple #[v, .int .i64 0]) ∧ Kd.R (Kd.int .u8) 5 w' w.heap.size (fun _ => True) v (nowD D N) ∧ PD w' base db sb (readD D) ∧ FP base db sb w w' := by
  have hN : 0 ≤ N ∧ N < D.safe.length := by
    unfold ready at hr
    split at hr
    · omega
    · split at hr
      · omega
      · omega
  have HNL := Aside0.mk (now_len h.ok N hN)
  have HP := Aside0.mk h
  have HR := Aside0.mk hr
  obtain ⟨vw, cs, sp, hx⟩ := h
  have c4 : w.cell? ⟨db, 4, none⟩ = some (.int .i64 D.reads) := cell_blk hx.cells
  have f4 : w.frozen? ⟨db, 4, none⟩ = false := frozen_blk hx.cells
  have HX := Aside0.mk hx
  clear hx hr
  go_enter Try.func13, Try.ntmps13
  go_wp2_with fail
  refine (ready_any N HP.out).mono ?_
  rintro e w1 ⟨rfl, rfl⟩
  rw [HR.out]
  go_wp2_with fail
  refine (add_at _ db 4 D.reads 1 c4 f4).mono ?_
  rintro e w2 ⟨rfl, hw2⟩
  have hp2 : PD w2 base db sb (readD D) := ⟨vw, cs, sp, by rw [hw2]; exact HX.out.put 4 _ (D' := readD D) (cnt_ok HX.out.ok rfl rfl rfl) rfl rfl rfl⟩
  have hf2 : FP base db sb w1 w2 := by rw [hw2]; exact .set _ _ _ _ (.inl rfl)
  have HP2 := Aside0.mk hp2
  have HF2 := Aside0.mk hf2
  have hs2 : w1.heap.size ≤ w2.heap.size := hf2.size
  clear hw2 hp2 hf2 c4 f4
  go_wp2_with fail
  refine (now_any HP2.out N hN hfew).mono ?_
  rintro e w3 ⟨a, c, rfl, hc, hC, hB⟩
  have HC3 := Aside0.mk hC
  have HB3 := Aside0.mk hB
  have hs3 : w2.heap.size ≤ w3.heap.size := hB.size
  clear hC hB
  go_wp2_with fail
  have hnl := HNL.out.1
  have hC4 := HC3.out
  rw [show nowD (readD D) N = nowD D N from rfl, ← hnl] at hC4
  have hcl := clone8 (w := w3) a c (nowD D N) hC4 (by omega)
  rw [hnl] at hcl
  refine hcl.mono ?_
  rintro e w4 ⟨v, rfl, hr4, _, hb4⟩
  have HR4 := Aside0.mk hr4
  have HB4 := Aside0.mk hb4
  clear hr4 hb4 hC4 hcl
  go_wp2_with fail
  go_ret2
  have hbb := HB3.out.trans (HB4.out.mono HB3.out.size)
  exact ⟨_, rfl, Kd.R_lower HR4.out (by omega), HP2.out.below hbb, HF2.out.trans (.of_below hbb)⟩
end Disk
end Go.Proofs.Ytooemgcijbdilaa
