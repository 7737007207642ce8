/- Part 17 of the proof of ChainWrites: lemmas alone. -/
import Derived.Test.YtclneeamemofoaaGreatZChainWritesP14
import Derived.RangeFuncNested
import Derived.RangeFuncBound
import Derived.RangeFuncCalls
import Derived.RangeFuncLeaves
import Derived.Shelf.Abstract
import Derived.Shelf.RegionOpen
import Derived.WalkKit
import Derived.OwnWalkIn
import Derived.TacticsInMore
import Derived.LoopNIn
import Derived.LoopIn
import Derived.Below
import Derived.Lib.Hide
import Derived.OwnWalk
import Derived.KernelRfl
import Derived.RowKit3
import Derived.Deep.LoopGhost
import Derived.Deep.QuietTactic
import Derived.BigQuiet
import Derived.WideLaws
import Derived.Great.BuildSlice
import Derived.Outline
import Derived.Deep.DeepCutAuto
import Derived.WalkSpells
import Derived.RegionTactic
import Derived.BigRegion
import Derived.WalkLawsBesides
section
namespace Go.Proofs.YtclneeamemofoaaGreat
set_option linter.unusedVariables false
set_option linter.unusedSimpArgs false
open Go.RowKit Go.Shelf
attribute [local go_sem] Oper.semAt_some
namespace Disk
open Go.Disk
structure Ent where
  i : Nat
  n : Int
  a : Option Addr
  l : Nat
  c : Nat
abbrev Ent.v (x : Ent) : Value := .slice x.a x.l x.c
def upto (f : Nat → Ent) (k : Nat) : List Ent := (List.range k).map f
theorem upto_succ (f : Nat → Ent) (k : Nat) : upto f (k + 1) = upto f k ++ [f k] := by simp [upto, List.range_succ]
theorem upto_length (f : Nat → Ent) (k : Nat) : (upto f k).length = k := by simp [upto]
set_option maxRecDepth 100000 in
set_option maxHeartbeats 2000000 in
theorem back1_in (F : Fence) (n : Nat) (h8 : F.fn 90) (hro : F.round = none) (hn : 1 ≤ n) (l Bs n₀ b len cap : Nat) (E : Nat → Ent) (hE : ∀ j, (E j).i = j) (hreach : len ≤ 1000000000) (hb : b < n₀) (J Jx : List Ent → World → Prop)
    (hY : ∀ pre x W, J pre W → pre.length < len → YieldAt F (n - 1) Tryz.prog l #[.int .i64 (x.i : Int), .agg #[.int .i64 x.n, x.v]] W fun e W' =>
      (e = .returned (.bool true) ∧ J (pre ++ [x]) W' ∧ Below n₀ W W') ∨ (e = .returned (.bool false) ∧ Jx (pre ++ [x]) W'))
    (W : World) (hBs : W.cell? ⟨Bs, 0, none⟩ = some (.slice (some ⟨b, 0, none⟩) len cap)) (hBk : ∀ W', Below n₀ W W' → W'.cell? ⟨Bs, 0, none⟩ = some (.slice (some ⟨b, 0, none⟩) len cap)) (hc : ∀ j, j < len → W.cell? ⟨b, j * 2, none⟩ = some (.int .i64 (E j).n) ∧ W.cell? ⟨b, j * 2 + 1, none⟩ = some (E j).v) (h0 : J [] W) :
    CallsIn F n Tryz.prog 90 #[.func (.yield l) #[] #[], .pointer (some ⟨Bs, 0, none⟩)] W fun e W' => (∃ v, e = .returned v) ∧
      ((∃ ys, ys = upto (fun j => E (len - 1 - j)) len ∧ J ys W') ∨ (∃ pre, (∃ k, k ≤ len ∧ pre = upto (fun j => E (len - 1 - j)) k) ∧ Jx pre W')) := by
  refine callsIn_of_wp Tryz.func90 rfl h8 ?_ hro
  simp only [Tryz.ntmps90, List.size_toArray, List.length_cons, List.length_nil, Nat.reduceAdd, Nat.reduceSub, Array.replicate_succ, Array.replicate_zero, List.push_toArray, List.append_toArray, List.nil_append, List.cons_append]
  gi_wp2
  gi_loopw [3] (fun i wr => ∃ k : Nat, k ≤ len ∧ i = .int .i64 ((len : Int) - 1 - k) ∧ J (upto (fun j => E (len - 1 - j)) k) wr ∧ Below n₀ W wr)
    (fun i _ => (intOf i + 1).toNat)
  case atStart => exact ⟨0, Nat.zero_le _, by simp, h0, Below.refl _ _⟩
  case round =>
    obtain ⟨k, hk, rfl, hJs, hnx⟩ := hrel
    have hBx := hBk wr hnx
    by_cases hlt : k < len
    · obtain ⟨m, hm⟩ : ∃ m : Nat, m = len - 1 - k := ⟨_, rfl⟩
      have hmi : (len : Int) - 1 - k = m := by omega
      have hml : m < len := by omega
      have c0 : wr.cell? ⟨b, m * 2, none⟩ = some (.int .i64 (E m).n) := (hnx.cell (p := ⟨b, m * 2, none⟩) hb).trans (hc m hml).1
      have c1 : wr.cell? ⟨b, m * 2 + 1, none⟩ = some (E m).v := (hnx.cell (p := ⟨b, m * 2 + 1, none⟩) hb).trans (hc m hml).2
      obtain ⟨fn, tmps, assign, body, hy, hR⟩ := hY _ (E m) wr hJs (by rw [upto_length]; exact hlt)
      rw [hE m] at hy
      have hfk : E m = E (len - 1 - k) := by rw [hm]
      obtain ⟨⟨xi, xn, xa, xl, xc⟩, hx⟩ : ∃ x, x = E m := ⟨_, rfl⟩
      rw [← hx] at c0 c1 hy hR hfk
      have HFK := Lib.hid hfk
      simp only [Ent.v] at hy c1
      rw [hmi]
      clear hm hx hfk
      gi_wp2
      refine hR.mono ?_
      rintro e W3 (⟨rfl, hJ3, hk3⟩ | ⟨rfl, hJx3⟩)
      · gi_wp2
        go_roundw
        case rel => exact ⟨k + 1, by omega, by simp; omega, by rw [upto_succ, ← HFK.out]; exact hJ3, hnx.trans hk3⟩
        case measure => first | (simp [intOf]; done) | (simp [intOf]; omega)
      · gi_wp2
        refine bodyPost_ret (results_none rfl _ _ _) rfl ?_
        exact ⟨⟨_, rfl⟩, .inr ⟨_, ⟨k + 1, by omega, by rw [upto_succ, HFK.out]⟩, hJx3⟩⟩
    · obtain rfl : k = len := by omega
      have hmi : (k : Int) - 1 - k = -1 := by omega
      rw [hmi]
      gi_wp2
      go_end0
      exact ⟨⟨_, rfl⟩, .inl ⟨_, rfl, hJs⟩⟩
set_option maxRecDepth 100000 in
set_option maxHeartbeats 1000000 in
theorem back1_nil_in (F : Fence) (n : Nat) (h8 : F.fn 90) (hro : F.round = none) (l Bs : Nat) (J : List Ent → World → Prop) (W : World) (hBs : W.cell? ⟨Bs, 0, none⟩ = some (.slice none 0 0)) (h0 : J [] W) :
    CallsIn F n Tryz.prog 90 #[.func (.yield l) #[] #[], .pointer (some ⟨Bs, 0, none⟩)] W fun e W' => (∃ v, e = .returned v) ∧ J [] W' := by
  refine callsIn_of_wp Tryz.func90 rfl h8 ?_ hro
  simp only [Tryz.ntmps90, List.size_toArray, List.length_cons, List.length_nil, Nat.reduceAdd, Nat.reduceSub, Array.replicate_succ, Array.replicate_zero, List.push_toArray, List.append_toArray, List.nil_append, List.cons_append]
  gi_wp2
  gi_loopw [3] (fun i wr => i = .int .i64 (-1) ∧ J [] wr) (fun _ _ => 0)
  case atStart => exact ⟨rfl, h0⟩
  case round =>
    obtain ⟨rfl, hJs⟩ := hrel
    gi_wp2
    go_end0
    exact ⟨⟨_, rfl⟩, hJs⟩
set_option maxRecDepth 100000 in
set_option maxHeartbeats 1000000 in
theorem back_in (F : Fence) (n : Nat) (h6 : F.fn 79) (hro : F.round = none) (a : Option Addr) (len cap : Nat) (w : World) :
    CallsIn F n Tryz.prog 79 #[.slice a len cap] w fun e w' => e = .returned (.func (.func 90) #[] #[.pointer (some ⟨w.heap.size, 0, none⟩)]) ∧ w' = w.alloc (.cells #[.slice a len cap] 49) := by
  refine callsIn_of_wp Tryz.func79 rfl h6 ?_ hro
  simp only [Tryz.ntmps79, List.size_toArray, List.length_cons, List.length_nil, Nat.reduceAdd, Nat.reduceSub, Array.replicate_succ, Array.replicate_zero, List.push_toArray, List.append_toArray, List.nil_append, List.cons_append]
  gi_wp2
  go_ret
  exact ⟨rfl, rfl⟩
def Ents (n₀ : Nat) (W : World) (sv : Value) (len : Nat) (E : Nat → Ent) : Prop :=
  (sv = .slice none 0 0 ∧ len = 0) ∨ ∃ b cap, sv = .slice (some ⟨b, 0, none⟩) len cap ∧ b < n₀ ∧ ∀ j, j < len → W.cell? ⟨b, j * 2, none⟩ = some (.int .i64 (E j).n) ∧ W.cell? ⟨b, j * 2 + 1, none⟩ = some (E j).v
theorem Ents.below {n₀ : Nat} {A B : World} (h : Below n₀ A B) {sv : Value} {len : Nat} {E : Nat → Ent} : Ents n₀ A sv len E → Ents n₀ B sv len E
  | .inl e => .inl e
  | .inr ⟨b, cap, e, hb, hc⟩ => .inr ⟨b, cap, e, hb, fun j hj => ⟨(h.cell (p := ⟨b, j * 2, none⟩) hb).trans (hc j hj).1, (h.cell (p := ⟨b, j * 2 + 1, none⟩) hb).trans (hc j hj).2⟩⟩
theorem back_stops (F : Fence) (n : Nat) (h8 : F.fn 90) (hro : F.round = none) (hn : 1 ≤ n) (Bs n₀ len : Nat) (sv : Value) (E : Nat → Ent) (hE : ∀ j, (E j).i = j) (hreach : len ≤ 1000000000) (w : World) (hBs : Bs < n₀) (hn₀ : n₀ ≤ w.heap.size)
    (hc : w.cell? ⟨Bs, 0, none⟩ = some sv) (hI : Ents n₀ w sv len E) :
    SeqStopsK F n Tryz.prog 90 #[.pointer (some ⟨Bs, 0, none⟩)] (fun x : Ent => #[Value.int .i64 (x.i : Int), .agg #[.int .i64 x.n, x.v]]) (Below n₀) (fun ys => ys = upto (fun j => E (len - 1 - j)) len)
      (fun pre => ∃ k, k ≤ len ∧ pre = upto (fun j => E (len - 1 - j)) k) len w := fun l J Jx W hW _ _ hY h0 => by
  have hW' := hW.mono hn₀
  have hc' := (hW'.cell (p := ⟨Bs, 0, none⟩) hBs).trans hc
  rcases hI.below hW' with ⟨rfl, rfl⟩ | ⟨b, cap, rfl, hb, hcs⟩
  · exact (back1_nil_in F n h8 hro l Bs J W hc' h0).mono fun e W' ⟨he, hj⟩ => ⟨he, .inl ⟨_, rfl, hj⟩⟩
  · exact back1_in F n h8 hro hn l Bs n₀ b len cap E hE hreach hb J Jx hY W hc' (fun W' h => (h.cell (p := ⟨Bs, 0, none⟩) hBs).trans hc') hcs h0
end Disk
end Go.Proofs.YtclneeamemofoaaGreat
namespace Go.Proofs.YtclneeamemofoaaGreat
set_option linter.unusedVariables false
set_option linter.unusedSimpArgs false
open Go.RowKit Go.Proofs.YtclneeamemofoaaGreatW.PrintWords Go.Proofs.YtclneeamemofoaaGreatW.PrintLast Go.Proofs.YtclneeamemofoaaGreatW.PrintMore
namespace Disk
open Go.Disk PDiskDoes PChain
theorem W_at {e : Nat} {w : World} {base sb : Nat} {vw : Value} {ws : List (Int × List Int)} (h : Kd.R kW e w base (fun k => k ≠ sb) vw ws) (j : Nat) (hj : j < ws.length) :
    ∃ g cap vb, vw = .slice (some ⟨g, 0, none⟩) ws.length cap ∧ w.cell? ⟨g, j * 2, none⟩ = some (.int .i64 (ws[j].1)) ∧ w.cell? ⟨g, j * 2 + 1, none⟩ = some vb ∧ Kd.R (Kd.int .u8) 5 w base (fun k => k ≠ sb) vb ws[j].2 ∧ g ≠ sb ∧ g < w.heap.size ∧ ws.length ≤ cap := by
  obtain ⟨h0, inner, ⟨hl, ho⟩, hr1, hr2⟩ := h
  have hm := hr2 j _ (List.getElem?_eq_getElem hj)
  obtain ⟨c0, c1, ee, hk0, vb, hk1, hR⟩ := hm
  rcases ho with ⟨_, hz⟩ | ⟨g, cap, cur, rfl, hbase, hb, hn, hmx, hcs, hcur⟩
  · omega
  · have hk0' : c0 = [.int .i64 ws[j].1] := hk0
    subst hk0' hk1
    have hcell : ∀ t, t < 2 → w.cell? ⟨g, j * 2 + t, none⟩ = ((inner.drop (j * 2)).take 2)[t]? := fun t ht => by
      have hsz : kW.sz = 2 := rfl
      rw [hsz] at hcur hcs hl
      rw [cell_blk hb, List.getElem?_take_of_lt ht, List.getElem?_drop, ← hcur, List.getElem?_take_of_lt (by omega), Array.getElem?_toList]
    have hsz : kW.sz = 2 := rfl
    rw [hsz] at ee
    rw [ee] at hcell
    have q0 := hcell 0 (by omega)
    have q1 := hcell 1 (by omega)
    simp at q0 q1
    refine ⟨g, cap, vb, rfl, q0, q1, Kd.R_mono hR (fun k hk => hk.1), ?_, blk_lt hb, hn⟩
    exact h0 g rfl
def crashTo : Dk → List (Int × List Int) → List Int → Dk
  | D, p :: ws, m :: ms => crashTo (tearD D p.1.toNat p.2 m) ws ms
  | D, _, _ => D
theorem crashTo_snoc : ∀ (ws : List (Int × List Int)) (ms : List Int) (D : Dk) (p : Int × List Int) (m : Int), ws.length = ms.length → crashTo D (ws ++ [p]) (ms ++ [m]) = tearD (crashTo D ws ms) p.1.toNat p.2 m
  | [], [], D, p, m, _ => rfl
  | q :: ws, n :: ms, D, p, m, h => by
    show crashTo (tearD D q.1.toNat q.2 n) (ws ++ [p]) (ms ++ [m]) = tearD (crashTo (tearD D q.1.toNat q.2 n) ws ms) p.1.toNat p.2 m
    exact crashTo_snoc ws ms _ p m (by simpa using h)
  | [], _ :: _, _, _, _, h => by simp at h
  | _ :: _, [], _, _, _, h => by simp at h
theorem crashTo_next (D : Dk) (ws : List (Int × List Int)) (ms : List Int) (i : Nat) (h1 : i < ws.length) (h2 : i < ms.length) : crashTo D (ws.take (i + 1)) (ms.take (i + 1)) = tearD (crashTo D (ws.take i) (ms.take i)) ws[i].1.toNat ws[i].2 ms[i] := by
  rw [List.take_succ_eq_append_getElem h1, List.take_succ_eq_append_getElem h2]
  exact crashTo_snoc _ _ _ _ _ (by rw [List.length_take, List.length_take]; omega)
theorem crashTo_all (D : Dk) : ∀ (ws : List (Int × List Int)) (ms : List Int) (n : Nat), n = min ws.length ms.length → crashTo D (ws.take n) (ms.take n) = crashTo D ws ms := by
  intro ws
  induction ws generalizing D with
  | nil => intro ms n h; simp [crashTo]
  | cons p ws ih =>
    intro ms n h
    cases ms with
    | nil => simp at h; subst h; rfl
    | cons m ms =>
      simp at h
      obtain ⟨k, rfl⟩ : ∃ k, n = k + 1 := ⟨n - 1, by omega⟩
      exact ih _ ms k (by omega)
theorem crashTo_safe : ∀ (ws : List (Int × List Int)) (ms : List Int) (D : Dk), (crashTo D ws ms).safe.length = D.safe.length ∧ (crashTo D ws ms).waits = D.waits
  | p :: ws, m :: ms, D => by
    have h := crashTo_safe ws ms (tearD D p.1.toNat p.2 m)
    refine ⟨h.1.trans ?_, h.2⟩
    show (D.safe.set _ _).length = _
    rw [List.length_set]
  | [], _, D => ⟨by cases ‹List Int› <;> rfl, by cases ‹List Int› <;> rfl⟩
  | _ :: _, [], D => ⟨rfl, rfl⟩
def crashD (D : Dk) (ms : List Int) : Dk := { crashTo D D.waits ms with waits := [], off := false, left := -1 }
theorem calm_ok {D : Dk} (h : Ok D) : Ok { D with waits := [], off := false, left := -1 } := ⟨h.few, h.len, h.byte, fun p hp => by simp at hp, by show (-1 : Int) ≤ -1; omega, by show (-1 : Int) ≤ 9223372036854775807; omega⟩
set_option maxHeartbeats 8000000 in
set_option maxRecDepth 100000 in
theorem crash_any {w : World} {base db sb : Nat} {D : Dk} (h : PD w base db sb D) (A : Option Addr) (c : Nat) (ms : List Int) (hC : Kd.C (Kd.int .i64) w A ms.length ms) (hc : ms.length ≤ c) (hCs : ∀ x, Fr (fun k => k = sb) (fun _ _ => False) w x → Kd.C (Kd.int .i64) x A ms.length ms) :
    Calls Tryz.prog 35 #[.pointer (some ⟨db, 0, none⟩), .slice A ms.length c] w fun e w' => (∃ v, e = .returned v) ∧ PD w' base db sb (crashD D ms) ∧ FP base db sb w w' := by
  have HPD := Aside0.mk h
  obtain ⟨vw, cs, sp, h⟩ := h
  have HX := Aside0.mk h
  have HC := Aside0.mk hCs
  obtain ⟨AW, cW, rfl, hcW, _⟩ := Kd.R_reads h.waits
  have c1 : w.cell? ⟨db, 1, none⟩ = some (.slice AW D.waits.length cW) := cell_blk h.cells
  have hmb : ms.length ≤ 9223372036854775807 := hC.2.1
  clear h hC hCs
  obtain ⟨n, hn⟩ : ∃ n, n = min D.waits.length ms.length := ⟨_, rfl⟩
  have HN := Aside0.mk hn
  clear hn
  go_enter Tryz.func35, Tryz.ntmps35
  go_wp2_with fail
  have hm1 : ∀ m : Go.Reg.In (fun x => x = w.drew), m.w.cell? ⟨db, 1, none⟩ = some (.slice AW D.waits.length cW) := fun m => by rw [m.h]; exact c1
  have hmin : ((min (D.waits.length : Int) (ms.length : Int)) : Int) = n := by have := HN.out; omega
  have q1 : (n : Int) ≤ cW := by have := HN.out; omega
  refine Go.Reg.region (fun x => x = w.drew) [.s, .s, .s, .s, .s, .s, .s, .s, .s, .s, .s, .s, .s, .s, .s] (by kernel_rfl) (by kernel_rfl) rfl (fun ne => ?_)
  refine Go.Reg.lex_q 15 _ _ _ _ (by rfl) ?_; simp only [List.take_succ_cons, List.take_zero, List.drop_succ_cons, List.drop_zero]; (repeat (go_big_quiet_step (rfl)))
  have hite : (if ms.length < D.waits.length then (ms.length : Int) else (D.waits.length : Int)) = (n : Int) := by
    have := HN.out
    split <;> omega
  have hmx : max (n : Int) 0 = n := by omega
  simp only [hite, Int.toNat_natCast, hmx]
  refine wpQuiet_nil ?_
  refine Go.Reg.lex_nil ?_
  go_wp2_with fail
  clear hm1 hite hmx hmin
  have HN1 := Aside0.mk (show n ≤ D.waits.length ∧ n ≤ ms.length by have := HN.out; omega)
  obtain ⟨W, hW⟩ : ∃ W, W = w.drew := ⟨_, rfl⟩
  rw [← hW]
  have HFW := Aside0.mk (show Fr (fun k => k = sb) (fun _ _ => False) w W by rw [hW]; exact .of_below (below_drew1 (Below.refl _ _)))
  have HPW := Aside0.mk (show PD W base db sb D by rw [hW]; exact HPD.out.below (below_drew1 (Below.refl _ _)))
  clear hW
  go_loopg [22, 4, 5] n (fun g v22 v4 v5 wr => ∃ (i : Nat), Aside0 (i + g = n) ∧ v22 = .int .i64 i ∧ Aside0 (PD wr base db sb (crashTo D (D.waits.take i) (ms.take i))) ∧ Aside0 (Fr (fun k => k = sb) (fun _ _ => False) w wr))
  case atStart => exact ⟨0, ⟨by omega⟩, rfl, by simpa [crashTo] using HPW, HFW⟩
  case round =>
    clear HPW HFW
    obtain ⟨i, HI, rfl, HP, HF⟩ := hrel
    have hws := (crashTo_safe (D.waits.take i) (ms.take i) D)
    have HWS := Aside0.mk hws
    clear hws
    by_cases hi : i < n
    · have hiw : i < D.waits.length := by have := HN1.out; omega
      have him : i < ms.length := by have := HN1.out; omega
      obtain ⟨g, cap, vb, hvw, hw0, hw1, hwr, hgs, hgl, _⟩ := W_at HX.out.waits i hiw
      cases hvw
      obtain ⟨ab, cb, hvb, hcb, _⟩ := Kd.R_reads hwr
      subst hvb
      have hat := HX.out.ok.at_ _ (List.getElem_mem hiw)
      obtain ⟨N, hN⟩ : ∃ N, N = D.waits[i].1 := ⟨_, rfl⟩
      obtain ⟨bs, hbs⟩ : ∃ bs, bs = D.waits[i].2 := ⟨_, rfl⟩
      rw [← hN, ← hbs] at hat
      rw [← hN] at hw0
      rw [← hbs] at hw1 hwr hcb
      have HNX := Aside0.mk (crashTo_next D D.waits ms i hiw him)
      rw [← hN, ← hbs] at HNX
      clear hN hbs
      have g0 : wr.cell? ⟨g, i * 2, none⟩ = some (.int .i64 N) := ((World.cell?_of_block (w := w) (HF.out.block g hgl hgs (fun _ _ _ _ h => h)))).trans hw0
      have g1 : wr.cell? ⟨g, i * 2 + 1, none⟩ = some (.slice ab bs.length cb) := ((World.cell?_of_block (w := w) (HF.out.block g hgl hgs (fun _ _ _ _ h => h)))).trans hw1
      have HWR := Aside0.mk hwr
      have HAT := Aside0.mk hat
      clear hw0 hw1 hwr hat
      obtain ⟨aw, haw, _⟩ := Kd.at_int (Kd.R_reads' HWR.out).2.2 0 (by omega) (by have := HAT.out.2.2.1; omega)
      subst haw
      go_wp2_with fail
      obtain ⟨V, hV⟩ : ∃ V, V = wr.alloc (.cells #[.int .i64 N, .slice (some aw) bs.length cb] 103) := ⟨_, rfl⟩
      have hal : Below wr.heap.size wr V := by rw [hV]; exact (Below.refl _ _).alloc (Nat.le_refl _) _
      have hbx : V.heap[wr.heap.size]? = some (.cells #[.int .i64 N, .slice (some aw) bs.length cb] 103 (0, 0)) := by rw [hV]; exact heap_alloc_new wr _
      rw [← hV]
      have HBX := Aside0.mk hbx
      have HAL := Aside0.mk hal
      clear hV hal hbx g0 g1
      have HFV := Aside0.mk (HF.out.trans ((Fr.of_below HAL.out).trans (Fr.of_below (below_drew1 (Below.refl V.heap.size V)))))
      obtain ⟨am, ham, hcm⟩ := Kd.at_int (HC.out _ HFV.out) (i : Int) (by omega) (by omega)
      subst ham
      rw [Int.toNat_natCast] at hcm
      obtain ⟨mk, hmk⟩ : ∃ mk, mk = rd ms i := ⟨_, rfl⟩
      have HMK := Aside0.mk (show mk = ms[i] by rw [hmk]; unfold rd; simp [him])
      rw [← hmk] at hcm
      clear hmk
      have hm0 : ∀ m : Go.Reg.In (fun x => x = V.drew), m.w.cell? ⟨wr.heap.size, 0, none⟩ = some (.int .i64 N) := fun m => by rw [m.h]; exact cell_blk (w := V) HBX.out
      have hm1 : ∀ m : Go.Reg.In (fun x => x = V.drew), m.w.cell? ⟨wr.heap.size, 1, none⟩ = some (.slice (some aw) bs.length cb) := fun m => by rw [m.h]; exact cell_blk (w := V) HBX.out
      have hm2 : ∀ m : Go.Reg.In (fun x => x = V.drew), m.w.cell? (am.add i) = some (.int .i64 mk) := fun m => by rw [m.h]; exact hcm
      refine Go.Reg.region (fun x => x = V.drew) [.s, .s, .s, .s, .s, .s, .x] (by kernel_rfl) (by kernel_rfl) rfl (fun ne => ?_)
      refine Go.Reg.lex_q 6 _ _ _ _ (by rfl) ?_; simp only [List.take_succ_cons, List.take_zero, List.drop_succ_cons, List.drop_zero]; (repeat (go_big_quiet_step (rfl))); refine wpQuiet_nil ?_
      refine Go.Reg.step_x (by rfl) (fun K hK => ?_)
      clear hm0 hm1 hm2 hcm
      go_wp2_with fail
      have hwl := HF.out.size
      refine (tear_any ((HP.out.below HAL.out).below (below_drew1 (Below.refl _ _))) N aw cb bs mk ?tN HAT.out.2.2.1 (by have := HAT.out.2.2.1; omega) ?tC HAT.out.2.2.2).mono ?_
      case tN => rw [HWS.out.1]; exact ⟨HAT.out.1, HAT.out.2.1⟩
      case tC => exact fun x hx => (Kd.R_reads' (Kd.R_step HWR.out (fun j hj hlt => (hx j (Nat.lt_of_lt_of_le hlt (Nat.le_trans hwl HAL.out.size)) hj).trans ((HAL.out.block j (by omega)).trans (HF.out.block j hlt hj (fun _ _ _ _ h => h)))))).2.2
      rintro e w5 ⟨⟨v5, rfl⟩, hp5, hf5⟩
      have HP5 := Aside0.mk hp5
      have HF5 := Aside0.mk (HFV.out.trans hf5)
      clear hp5 hf5
      go_wp2_with fail
      refine hK.out _ _ ?_
      clear hK K
      refine Go.Reg.lex_nil ?_
      have hnm := HN1.out.2
      go_wp2_with fail
      go_roundg (gk - 1)
      case measure => have := HI.out; omega
      case rel => exact ⟨i + 1, ⟨by have := HI.out; omega⟩, by go_num, ⟨by rw [HNX.out, ← HMK.out]; exact HP5.out⟩, HF5⟩
    · have hin : i = n := by have := HI.out; omega
      subst hin
      rw [crashTo_all D D.waits ms i HN.out] at HP
      obtain ⟨vw', cs', sp', hx⟩ := HP.out
      have c1 : wr.cell? ⟨db, 1, none⟩ = some vw' := cell_blk hx.cells
      have c2 : wr.cell? ⟨db, 2, none⟩ = some (.int .i64 (crashTo D D.waits ms).left) := cell_blk hx.cells
      have c3 : wr.cell? ⟨db, 3, none⟩ = some (.bool (crashTo D D.waits ms).off) := cell_blk hx.cells
      have f1 : wr.frozen? ⟨db, 1, none⟩ = false := frozen_blk hx.cells
      have f2 : wr.frozen? ⟨db, 2, none⟩ = false := frozen_blk hx.cells
      have f3 : wr.frozen? ⟨db, 3, none⟩ = false := frozen_blk hx.cells
      have HXX := Aside0.mk hx
      clear hx
      go_wp2_with fail
      go_end0
      have hx := HXX.out
      have hok := calm_ok hx.ok
      have hb3 := blk_set (blk_set (blk_set hx.cells 1 (.slice none 0 0)) 3 (.bool false)) 2 (.int .i64 (-1))
      have hne := hx.ne
      refine ⟨⟨_, rfl⟩, ⟨.slice none 0 0, cs', sp', hok, hx.dbase, hx.sbase, fun _ h => by simp [Value.ownBlock] at h, ?_, Kd.R_nil _ _ _ _ _, ?_, hx.room⟩, ?_⟩
      · rw [hb3]
        rfl
      · rw [Below.heap_setCell _ _ _ _ (Ne.symm hne), Below.heap_setCell _ _ _ _ (Ne.symm hne), Below.heap_setCell _ _ _ _ (Ne.symm hne)]
        exact hx.safe
      · exact (HF.out.mono (fun _ h => .inr h) (fun _ _ h => h.elim)).trans (((Fr.set _ _ _ _ (.inl rfl)).trans (Fr.set _ _ _ _ (.inl rfl))).trans (Fr.set _ _ _ _ (.inl rfl)))
end Disk
end Go.Proofs.YtclneeamemofoaaGreat
namespace Go.Proofs.YtclneeamemofoaaGreat
set_option linter.unusedVariables false
set_option linter.unusedSimpArgs false
open Go.RowKit Go.Shelf Go.Proofs.YtclneeamemofoaaGreatW.PrintWords Go.Proofs.YtclneeamemofoaaGreatW.PrintLast Go.Proofs.YtclneeamemofoaaGreatW.PrintMore
attribute [local go_sem] Oper.semAt_some
namespace Disk
open Go.Disk
theorem cells_kept {W W' : World} {row : Option Nat} {B t : Nat} {cs : Array Value} (h : W.heap[B]? = some (.cells cs t (0, 0))) (hg : W.grownBy W' row) (hr : ∀ r, row = some r → ∃ o : Obj, W.heap[r]? = some o ∧ o.isCells = false) : W'.heap[B]? = some (.cells cs t (0, 0)) :=
  (hg.block B (blk_lt h) (fun e => by obtain ⟨o, ho, hc⟩ := hr B e.symm; rw [h] at ho; cases ho; cases hc)).trans h
set_option maxRecDepth 100000 in
set_option maxHeartbeats 4000000 in
theorem now_v {w : World} {base db sb : Nat} {D : Dk} {vw : Value} {cs : Nat} {sp : List Value} (h : PDx w base db sb D vw cs sp) (N : Nat) (hN : N < D.safe.length) (E : Nat → Ent) (hE : ∀ j, (E j).i = j) (len : Nat) (hreach : len ≤ 1000000000) (hI : Ents w.heap.size w vw len E) :
    Calls Tryz.prog 62 #[.pointer (some ⟨db, 0, none⟩), .int .i64 N] w fun e W' =>
      ((∃ j, j < len ∧ (E j).n = N ∧ (∀ i, j < i → i < len → (E i).n ≠ N) ∧ e = .returned (E j).v) ∨ ((∀ j, j < len → (E j).n ≠ N) ∧ e = .returned (.slice (some ⟨sb, N * 256, none⟩) 256 256))) ∧ Below w.heap.size w W' := by
  refine (callsIn_wide (n := 4)).1 ?_
  obtain ⟨A, L, C, hvw⟩ : ∃ A L C, vw = .slice A L C := by
    rcases hI with ⟨rfl, _⟩ | ⟨b, cap, rfl, _⟩
    · exact ⟨_, _, _, rfl⟩
    · exact ⟨_, _, _, rfl⟩
  subst hvw
  have HX := Aside0.mk h
  have c1 : w.cell? ⟨db, 1, none⟩ = some (.slice A L C) := cell_blk h.cells
  have hdb : db < w.heap.size := blk_lt h.cells
  have hro : Fence.wide.round = none := rfl
  have hf1 : Fence.wide.fn 79 := trivial
  have hf2 : Fence.wide.fn 90 := trivial
  have h1 : 1 ≤ 4 := by omega
  clear h
  refine callsIn_of_wp_marks Tryz.func62 rfl trivial ?_ hro
  simp only [Tryz.ntmps62, List.size_toArray, List.length_cons, List.length_nil, Nat.reduceAdd, Nat.reduceSub, Array.replicate_succ, Array.replicate_zero, List.push_toArray, List.append_toArray, List.nil_append, List.cons_append]
  gi_wp2_with (gi_at_call 79; refine (back_in Fence.wide _ trivial hro _ _ _ _).mono ?_; rintro e w' ⟨rfl, rfl⟩)
  have bN := Boxed.new w 3 (.int .i64 N)
  have bR := Boxed.new (w.alloc (.cells #[.int .i64 N] 3)) 39 (.slice none 0 0)
  have bS := Boxed.new ((w.alloc (.cells #[.int .i64 N] 3)).alloc (.cells #[.slice none 0 0] 39)) 49 (.slice A L C)
  rw [World.size_alloc] at bR
  rw [World.size_alloc, World.size_alloc] at bS
  obtain ⟨W0, hW0⟩ : ∃ W0, W0 = ((w.alloc (.cells #[.int .i64 N] 3)).alloc (.cells #[.slice none 0 0] 39)).alloc (.cells #[.slice A L C] 49) := ⟨_, rfl⟩
  have hs0 : W0.heap.size = w.heap.size + 1 + 1 + 1 := by rw [hW0]; simp
  have hB0 : Below w.heap.size w W0 := by rw [hW0]; exact (((Below.refl _ w).alloc (Nat.le_refl _) _).alloc (by simp) _).alloc (by simp; omega) _
  replace bN := (bN.alloc (.cells #[.slice none 0 0] 39)).alloc (.cells #[.slice A L C] 49)
  replace bR := bR.alloc (.cells #[.slice A L C] 49)
  rw [← hW0] at bN bR bS
  rw [← hW0]
  clear hW0
  refine wpIn_rangeFunc_ownH hro h1 (gf := 90) (lb := #[.pointer (some ⟨w.heap.size + 1 + 1, 0, none⟩)]) rfl hf2 (enters_of Tryz.func90 (by kernel_rfl) rfl)
    (back_stops Fence.wide 3 hf2 hro (by omega) (w.heap.size + 1 + 1) (w.heap.size + 1 + 1 + 1) len _ E hE hreach W0 (by omega) (by omega) bS.cell ?ents) belowK_t (belowK_b (by omega)) (Below.refl _ _) (fun _ => rfl)
    (fun (pre : List Ent) W => ((∀ y ∈ pre, y.n ≠ N) ∧ Boxed W w.heap.size 3 (.int .i64 N) ∧ Boxed W (w.heap.size + 1) 39 (.slice none 0 0) ∧ W0.heap.size ≤ W.heap.size) ∧ Below w.heap.size w W)
    (fun c pre W => (c = .ret ∧ ∃ (ini : List Ent) (last : Ent), pre = ini ++ [last] ∧ (∀ y ∈ ini, y.n ≠ N) ∧ last.n = N ∧ Boxed W (w.heap.size + 1) 39 last.v) ∧ Below w.heap.size w W)
    ?hI ?hIx ⟨⟨by simp, bN, bR, Nat.le_refl _⟩, hB0⟩
    (fun x a' W => ∃ Bx, w.heap.size + 1 + 1 < Bx ∧ Bx < W.heap.size ∧ W.heap[Bx]? = some (.cells #[.int .i64 x.n, x.v] 103 (0, 0)) ∧ a' = { tmps := #[.pointer (some ⟨db, 0, none⟩), .int .i64 N, undef, .pointer (some ⟨w.heap.size, 0, none⟩), .pointer (some ⟨w.heap.size + 1, 0, none⟩), undef, .pointer (some ⟨Bx, 0, none⟩), .pointer (some ⟨db, 0, none⟩), .pointer (some ⟨db, 0, none⟩), .pointer (some ⟨db, 1, none⟩), .slice A L C, .func (.func 90) #[] #[.pointer (some ⟨w.heap.size + 1 + 1, 0, none⟩)], .int .i64 (x.i : Int), .agg #[.int .i64 x.n, x.v], undef, undef, undef, undef, undef, undef, undef, undef, undef, undef, undef, undef], defers := [] })
    ?hAx ?assign ?body ?done ?stop
  case ents =>
    have h2 : Ents w.heap.size W0 (.slice A L C) len E := hI.below hB0
    rcases h2 with h2 | ⟨b, cap, h3, h4, h5⟩
    · exact .inl h2
    · exact .inr ⟨b, cap, h3, by omega, h5⟩
  case hI => exact OwnFrom.and (Own.from (fun s X Y row hs hg hr => ⟨hs.1, cells_kept hs.2.1 hg hr, cells_kept hs.2.2.1 hg hr, Nat.le_trans hs.2.2.2 hg.size⟩) _) (ownFrom_below (Nat.le_refl _) (by omega))
  case hIx => exact fun c => OwnFrom.and (Own.from (fun s X Y row hs hg hr => by obtain ⟨hc, ini, last, e1, e2, e3, e4⟩ := hs; exact ⟨hc, ini, last, e1, e2, e3, cells_kept e4 hg hr⟩) _) (ownFrom_below (Nat.le_refl _) (by omega))
  case hAx => exact fun x a' _ X Y row hs hg hr => by obtain ⟨Bx, h1, h2, h3, h4⟩ := hs; exact ⟨Bx, h1, Nat.lt_of_lt_of_le h2 hg.size, cells_kept h3 hg (fun r e => (hr r e).2), h4⟩
  case assign =>
    rintro l pre x W K ⟨⟨hp, b1, b2, hsz⟩, hB⟩ hK
    gi_wp2
    exact hK _ _ ((KeepsOthers.alloc _ _).from _) ((Below.refl _ W).alloc (by omega) _) ⟨⟨hp, b1.alloc _, b2.alloc _, by simp; omega⟩, hB.alloc hB.size _⟩ ⟨W.heap.size, by omega, by simp, heap_alloc_new W _, rfl⟩
  case body =>
    rintro l pre x a' W hl ⟨r, hr⟩ ⟨⟨hp, b1, b2, hsz⟩, hB⟩ ⟨Bx, hBx, hBl, bX, rfl⟩ hlt
    obtain ⟨xi, xn, xa, xl, xc⟩ := x
    have x0 : W.cell? ⟨Bx, 0, none⟩ = some (.int .i64 xn) := cell_blk bX
    have x1 : W.cell? ⟨Bx, 1, none⟩ = some (.slice xa xl xc) := cell_blk bX
    have cN := b1.cell
    have cR := b2.cell
    have fR := b2.frozen
    by_cases hx : xn = N
    · subst hx
      gi_wp2
      exact ⟨(KeepsOthers.setCell _ _ _).from _, ⟨rfl, pre, ⟨xi, N, xa, xl, xc⟩, rfl, hp, rfl, blk_set b2 0 (.slice xa xl xc)⟩, hB.setCell (p := ⟨w.heap.size + 1, 0, none⟩) (by simp) _⟩
    · have hxb : (xn == (N : Int)) = false := by simpa using hx
      gi_wp2
      exact ⟨KeepsFrom.refl _ _, Below.refl _ _, ⟨fun y hy => (List.mem_append.1 hy).elim (hp y) (fun e => by simp at e; subst e; exact hx), b1, b2, by omega⟩, hB⟩
  case done =>
    rintro D' ys W hD rfl ⟨⟨hp, b1, b2, hsz⟩, hB⟩ hK
    have cN := b1.cell
    have cR := b2.cell
    have fR := b2.frozen
    have hx := HX.out.below hB
    have d0 : W.cell? ⟨db, 0, none⟩ = some (.slice (some ⟨sb, 0, none⟩) (D.safe.length * 256) cs) := by rw [← flatLen hx.ok]; exact cell_blk hx.cells
    have hroom : D.safe.length * 256 ≤ cs := by have := hx.room; have := flatLen hx.ok; omega
    have hfew := hx.ok.few
    have HP := Aside0.mk hp
    clear hx hp
    gi_wp2
    refine wpIn_wide.2 ?_
    have m0 : ∀ m : Go.Reg.In (fun x => x = W.drew), m.w.cell? ⟨db, 0, none⟩ = some (.slice (some ⟨sb, 0, none⟩) (D.safe.length * 256) cs) := fun m => by rw [m.h]; exact d0
    have m1 : ∀ m : Go.Reg.In (fun x => x = W.drew), m.w.cell? ⟨w.heap.size, 0, none⟩ = some (.int .i64 N) := fun m => by rw [m.h]; exact cN
    refine Go.Reg.region (fun x => x = W.drew) [.s, .s, .s, .s, .s, .x, .x] (by kernel_rfl) (by kernel_rfl) rfl (fun ne => ?_)
    refine Go.Reg.lex_q 5 _ _ _ _ (by rfl) ?_; simp only [List.take_succ_cons, List.take_zero, List.drop_succ_cons, List.drop_zero]; (repeat (go_big_quiet_step (rfl))); refine wpQuiet_nil ?_
    refine Go.Reg.step_x (by rfl) (fun K hKK => ?_)
    go_wp2_with fail
    refine (block_at sb D.safe.length cs N hN (by omega) hroom).mono ?_
    rintro e w1 ⟨rfl, rfl⟩
    go_wp2_with fail
    refine hKK.out _ _ ?_
    clear hKK K
    refine Go.Reg.step_x (by rfl) (fun K hKK => ?_)
    go_wp2_with fail
    refine hKK.out _ _ ?_
    clear hKK K
    refine Go.Reg.lex_nil ?_
    gi_wp2
    obtain ⟨V, hV⟩ : ∃ V, V = (W.setCell ⟨w.heap.size + 1, 0, none⟩ (.slice (some ⟨sb, N * 256, none⟩) 256 256)).drew := ⟨_, rfl⟩
    have hK' : V.heap[D']? = some (.deferred (some [])) := by rw [hV]; exact (KeepsOthers.setCell W ⟨w.heap.size + 1, 0, none⟩ (.slice (some ⟨sb, N * 256, none⟩) 256 256)).same D' _ hK rfl
    have hv : V.heap[w.heap.size + 1]? = some (.cells #[.slice (some ⟨sb, N * 256, none⟩) 256 256] 39 (0, 0)) := by rw [hV]; exact blk_set b2 0 _
    have hBV : Below w.heap.size w V := by rw [hV]; exact below_drew1 (hB.setCell (p := ⟨w.heap.size + 1, 0, none⟩) (by simp) _)
    rw [← hV]
    refine ⟨by simp, .inl ⟨_, _, rfl, run_takeDeferred hK', ?_⟩⟩
    have hc5 := cell_kept (show V.cell? ⟨w.heap.size + 1, 0, none⟩ = some (.slice (some ⟨sb, N * 256, none⟩) 256 256) from cell_blk hv) (grownBy_putObj' _ D' (.deferred none)) (fun r e => by cases e; exact ⟨_, hK', rfl⟩)
    refine ⟨.slice (some ⟨sb, N * 256, none⟩) 256 256, ?_, .inr ⟨fun j hj => ?_, rfl⟩, hBV.trans (belowK_b (w := w) (Nat.le_refl _) V D' _ _ (by omega) hK' rfl rfl)⟩
    · simp [results, Tryz.f62, go_sem, hc5]
    · have h1 := HP.out (E j) (by
        simp only [upto, List.mem_map, List.mem_range]
        exact ⟨len - 1 - j, by omega, by rw [show len - 1 - (len - 1 - j) = j by omega]⟩)
      exact h1
  case stop =>
    rintro D' c pre W hD ⟨k, hk, rfl⟩ ⟨⟨rfl, ini, last, e1, e2, e3, b2⟩, hB⟩ hK
    gi_wp2
    refine ⟨by simp, .inl ⟨_, _, rfl, run_takeDeferred hK, ?_⟩⟩
    obtain ⟨k', rfl⟩ : ∃ k', k = k' + 1 := by
      cases k with
      | zero => simp [upto] at e1
      | succ k' => exact ⟨k', rfl⟩
    rw [upto_succ] at e1
    obtain ⟨h5, h6⟩ := List.append_inj' e1 rfl
    obtain rfl : E (len - 1 - k') = last := by simpa using h6
    subst h5
    have hc5 := cell_kept b2.cell (grownBy_putObj' _ D' (.deferred none)) (fun r e => by cases e; exact ⟨_, hK, rfl⟩)
    refine ⟨(E (len - 1 - k')).v, ?_, .inl ⟨len - 1 - k', by omega, e3, fun i hi1 hi2 => ?_, rfl⟩, hB.trans (belowK_b (w := w) (Nat.le_refl _) W D' _ _ (by omega) hK rfl rfl)⟩
    · simp [results, Tryz.f62, go_sem, hc5]
    · exact e2 (E i) (by
        simp only [upto, List.mem_map, List.mem_range]
        exact ⟨len - 1 - i, by omega, by rw [show len - 1 - (len - 1 - i) = i by omega]⟩)
end Disk
end Go.Proofs.YtclneeamemofoaaGreat
namespace Go.Proofs.YtclneeamemofoaaGreat
set_option linter.unusedVariables false
set_option linter.unusedSimpArgs false
open Go.RowKit Go.Proofs.YtclneeamemofoaaGreatW.PrintWords Go.Proofs.YtclneeamemofoaaGreatW.PrintLast Go.Proofs.YtclneeamemofoaaGreatW.PrintMore
namespace Disk
open Go.Disk PDiskDoes PChain
def lastW : List (Int × List Int) → Int → Option (List Int)
  | [], _ => none
  | p :: ws, n => match lastW ws n with
    | some b => some b
    | none => if p.1 = n then some p.2 else none
theorem lastW_none : ∀ (ws : List (Int × List Int)) (n : Int), (∀ j (h : j < ws.length), ws[j].1 ≠ n) → lastW ws n = none
  | [], _, _ => rfl
  | p :: ws, n, h => by
    have h1 := lastW_none ws n (fun j hj => h (j + 1) (by simpa using hj))
    have h2 := h 0 (by simp)
    unfold lastW
    rw [h1]
    exact if_neg h2
theorem lastW_hit : ∀ (ws : List (Int × List Int)) (n : Int) (j : Nat) (hj : j < ws.length), ws[j].1 = n → (∀ i (h : i < ws.length), j < i → ws[i].1 ≠ n) → lastW ws n = some ws[j].2
  | p :: ws, n, 0, _, h, hl => by
    have h1 := lastW_none ws n (fun i hi => hl (i + 1) (by simpa using hi) (by omega))
    unfold lastW
    rw [h1]
    exact if_pos h
  | p :: ws, n, j + 1, hj, h, hl => by
    have h1 := lastW_hit ws n j (by simpa using hj) h (fun i hi hji => hl (i + 1) (by simpa using hi) (by omega))
    unfold lastW
    rw [h1]
    rfl
def nowD (D : Dk) (n : Int) : List Int := (lastW D.waits n).getD (D.safe.getD n.toNat [])
theorem safe_C {w : World} {base db sb cs : Nat} {D : Dk} {vw : Value} {sp : List Value} (h : PDx w base db sb D vw cs sp) (n : Nat) (hn : n < D.safe.length) : Kd.C (Kd.int .u8) w (some ⟨sb, n * 256, none⟩) 256 D.safe[n] := by
  have hl := h.ok.len _ (List.getElem_mem hn)
  have hb := flat_block h.ok.len n hn
  refine ⟨hl, by omega, fun _ => ⟨_, rfl, fun j p hj => ⟨[.int .u8 p], rfl, rfl, fun i u hu => ?_⟩⟩⟩
  have hjl : j < 256 := by
    rcases Nat.lt_or_ge j 256 with h' | h'
    · exact h'
    · rw [List.getElem?_eq_none (by omega)] at hj; cases hj
  have hi : i = 0 := by
    rcases Nat.eq_zero_or_pos i with h' | h'
    · exact h'
    · rw [List.getElem?_eq_none (by simp; omega)] at hu; cases hu
  subst hi
  simp at hu
  subst hu
  have hadd : (⟨sb, n * 256, none⟩ : Addr).add (j * (Kd.int .u8).sz + 0) = ⟨sb, n * 256 + j, none⟩ := by
    rw [show j * (Kd.int .u8).sz + 0 = j from by show j * 1 + 0 = j; omega]
    unfold Addr.add
    split <;> simp_all
  rw [hadd, cell_blk h.safe]
  rw [← hb, List.getElem?_take_of_lt hjl, List.getElem?_drop] at hj
  have hlt : n * 256 + j < D.safe.flatten.length := by
    rcases Nat.lt_or_ge (n * 256 + j) D.safe.flatten.length with h' | h'
    · exact h'
    · rw [List.getElem?_eq_none h'] at hj; cases hj
  rw [List.getElem?_toArray, List.getElem?_append_left (by rw [u8s_len]; exact hlt)]
  unfold u8s
  rw [List.getElem?_map, hj]
  rfl
theorem now_any {w : World} {base db sb : Nat} {D : Dk} (h : PD w base db sb D) (N : Int) (hN : 0 ≤ N ∧ N < D.safe.length) (hfew : D.waits.length ≤ 1000000000) :
    Calls Tryz.prog 62 #[.pointer (some ⟨db, 0, none⟩), .int .i64 N] w fun e W' => ∃ a c, e = .returned (.slice (some a) 256 c) ∧ 256 ≤ c ∧ Kd.C (Kd.int .u8) W' (some a) 256 (nowD D N) ∧ Below w.heap.size w W' := by
  obtain ⟨vw, cs, sp, h⟩ := h
  obtain ⟨n, rfl⟩ : ∃ n : Nat, N = n := ⟨N.toNat, by omega⟩
  have hn : n < D.safe.length := by omega
  have hrow := h.waits
  have hall : ∀ j, ∃ x : Ent, x.i = j ∧ ∀ hj : j < D.waits.length, ∃ g, x.n = D.waits[j].1 ∧ (∃ cap, vw = .slice (some ⟨g, 0, none⟩) D.waits.length cap) ∧ g < w.heap.size ∧ w.cell? ⟨g, j * 2, none⟩ = some (.int .i64 x.n) ∧ w.cell? ⟨g, j * 2 + 1, none⟩ = some x.v ∧ Kd.R (Kd.int .u8) 5 w 0 (fun k => k ≠ sb) x.v D.waits[j].2 := by
    intro j
    by_cases hj : j < D.waits.length
    · obtain ⟨g, cap, vb, hv, c0, c1, hr, _, hg, _⟩ := W_at hrow j hj
      obtain ⟨A, c, rfl⟩ := Kd.R_slice hr
      exact ⟨⟨j, D.waits[j].1, A, D.waits[j].2.length, c⟩, rfl, fun _ => ⟨g, rfl, ⟨cap, hv⟩, hg, c0, c1, hr⟩⟩
    · exact ⟨⟨j, 0, none, 0, 0⟩, rfl, fun h' => absurd h' hj⟩
  obtain ⟨E, hE⟩ := Classical.axiomOfChoice hall
  have hI : Ents w.heap.size w vw D.waits.length E := by
    by_cases hz : D.waits.length = 0
    · obtain ⟨h0, inner, ⟨hl, ho⟩, hr1, hr2⟩ := hrow
      rcases ho with ⟨hv, _⟩ | ⟨g, cap, cur, hv, _, hb, _⟩
      · exact .inl ⟨hv, hz⟩
      · exact .inr ⟨g, cap, hv, blk_lt hb, fun j hj => by omega⟩
    · obtain ⟨g0, _, ⟨cap, hv⟩, hg, _⟩ := (hE 0).2 (by omega)
      refine .inr ⟨g0, cap, hv, hg, fun j hj => ?_⟩
      obtain ⟨g, _, ⟨cap', hv'⟩, _, c0, c1, _⟩ := (hE j).2 hj
      rw [hv] at hv'
      cases hv'
      exact ⟨c0, c1⟩
  refine (now_v h n hn E (fun j => (hE j).1) D.waits.length hfew hI).mono ?_
  rintro e W' ⟨⟨j, hj, hjn, hjl, rfl⟩ | ⟨hno, rfl⟩, hB⟩
  · obtain ⟨g, en, _, _, _, _, hr⟩ := (hE j).2 hj
    obtain ⟨h1, h2, h3⟩ := Kd.R_reads' (Kd.R_below hr hB)
    have hlen := (h.ok.at_ _ (List.getElem_mem hj)).2.2.1
    have hnow : nowD D (n : Int) = D.waits[j].2 := by
      unfold nowD
      rw [lastW_hit D.waits n j hj (by rw [← en]; exact hjn) (fun i hi hji => by rw [← ((hE i).2 hi).choose_spec.1]; exact hjl i hji hi)]
      rfl
    obtain ⟨a, ha, _⟩ := Kd.at_int h3 0 (by omega) (by omega)
    rw [hlen] at h3
    refine ⟨a, (E j).c, ?_, by omega, ?_, hB⟩
    · unfold Ent.v
      rw [ha, h1, hlen]
    · rw [hnow, ← ha]
      exact h3
  · have hnow : nowD D (n : Int) = D.safe[n] := by
      unfold nowD
      rw [lastW_none D.waits n (fun j hj => by rw [← ((hE j).2 hj).choose_spec.1]; exact hno j hj)]
      simp [hn]
    refine ⟨⟨sb, n * 256, none⟩, 256, rfl, Nat.le_refl _, ?_, hB⟩
    rw [hnow]
    exact safe_C (h.below hB) n hn
def readD (D : Dk) : Dk := { D with reads := wrap64 (D.reads + 1) }
theorem cnt_ok {D D' : Dk} (h : Ok D) (h1 : D'.safe = D.safe) (h2 : D'.waits = D.waits) (h3 : D'.left = D.left) : Ok D' := ⟨by rw [h1]; exact h.few, by rw [h1]; exact h.len, by rw [h1]; exact h.byte, by rw [h1, h2]; exact h.at_, by rw [h3]; exact h.left⟩
theorem lastW_mem : ∀ (ws : List (Int × List Int)) (n : Int) (b : List Int), lastW ws n = some b → ∃ p ∈ ws, p.1 = n ∧ p.2 = b
  | p :: ws, n, b, h => by
    unfold lastW at h
    split at h
    · rename_i c hc
      obtain ⟨q, h1, h2⟩ := lastW_mem ws n c hc
      cases h
      exact ⟨q, List.mem_cons_of_mem _ h1, h2⟩
    · split at h
      · rename_i h1
        cases h
        exact ⟨p, List.mem_cons_self, h1, rfl⟩
      · cases h
theorem now_len {D : Dk} (h : Ok D) (n : Int) (hn : 0 ≤ n ∧ n < D.safe.length) : (nowD D n).length = 256 ∧ ∀ x ∈ nowD D n, 0 ≤ x ∧ x ≤ 255 := by
  unfold nowD
  cases hl : lastW D.waits n with
  | some b =>
    obtain ⟨p, h1, h2, rfl⟩ := lastW_mem _ _ _ hl
    exact (h.at_ p h1).2.2
  | none =>
    have hlt : n.toNat < D.safe.length := by omega
    have e : (none : Option (List Int)).getD (D.safe.getD n.toNat []) = D.safe[n.toNat] := by simp [hlt]
    rw [e]
    exact ⟨h.len _ (List.getElem_mem hlt), h.byte _ (List.getElem_mem hlt)⟩
set_option maxHeartbeats 8000000 in
set_option maxRecDepth 100000 in
theorem read_no {w : World} {base db sb : Nat} {D : Dk} (h : PD w base db sb D) (N : Int) (hr : ready D N ≠ 0) :
    Calls Tryz.prog 28 #[.pointer (some ⟨db, 0, none⟩), .int .i64 N] w fun e w' => e = .returned (.tuple #[.slice none 0 0, .int .i64 (ready D N)]) ∧ w' = w := by
  obtain ⟨r, hrr⟩ : ∃ r, r = ready D N := ⟨_, rfl⟩
  rw [← hrr] at hr ⊢
  have HR := Aside0.mk hrr
  clear hrr
  have hb : (r != 0) = true := by simpa using hr
  go_enter Tryz.func28, Tryz.ntmps28
  go_wp2_with fail
  refine (ready_any N h).mono ?_
  rintro e w1 ⟨rfl, rfl⟩
  rw [← HR.out]
  go_wp2_with fail
  go_ret2
  exact ⟨rfl, rfl⟩
set_option maxHeartbeats 8000000 in
set_option maxRecDepth 100000 in
theorem read_yes {w : World} {base db sb : Nat} {D : Dk} (h : PD w base db sb D) (N : Int) (hr : ready D N = 0) (hfew : D.waits.length ≤ 1000000000) :
    Calls Tryz.prog 28 #[.pointer (some ⟨db, 0, none⟩), .int .i64 N] w fun e w' => ∃ v, e = .returned (.tuple #[v, .int .i64 0]) ∧ Kd.R (Kd.int .u8) 5 w' w.heap.size (fun _ => True) v (nowD D N) ∧ PD w' base db sb (readD D) ∧ FP base db sb w w' := by
  have hN : 0 ≤ N ∧ N < D.safe.length := by
    unfold ready at hr
    split at hr
    · omega
    · split at hr
      · omega
      · omega
  have HNL := Aside0.mk (now_len h.ok N hN)
  have HP := Aside0.mk h
  have HR := Aside0.mk hr
  obtain ⟨vw, cs, sp, hx⟩ := h
  have c4 : w.cell? ⟨db, 4, none⟩ = some (.int .i64 D.reads) := cell_blk hx.cells
  have f4 : w.frozen? ⟨db, 4, none⟩ = false := frozen_blk hx.cells
  have HX := Aside0.mk hx
  clear hx hr
  go_enter Tryz.func28, Tryz.ntmps28
  go_wp2_with fail
  refine (ready_any N HP.out).mono ?_
  rintro e w1 ⟨rfl, rfl⟩
  rw [HR.out]
  go_wp2_with fail
  refine (add_at _ db 4 D.reads 1 c4 f4).mono ?_
  rintro e w2 ⟨rfl, hw2⟩
  have hp2 : PD w2 base db sb (readD D) := ⟨vw, cs, sp, by rw [hw2]; exact HX.out.put 4 _ (D' := readD D) (cnt_ok HX.out.ok rfl rfl rfl) rfl rfl rfl⟩
  have hf2 : FP base db sb w1 w2 := by rw [hw2]; exact .set _ _ _ _ (.inl rfl)
  have HP2 := Aside0.mk hp2
  have HF2 := Aside0.mk hf2
  have hs2 : w1.heap.size ≤ w2.heap.size := hf2.size
  clear hw2 hp2 hf2 c4 f4
  go_wp2_with fail
  refine (now_any HP2.out N hN hfew).mono ?_
  rintro e w3 ⟨a, c, rfl, hc, hC, hB⟩
  have HC3 := Aside0.mk hC
  have HB3 := Aside0.mk hB
  have hs3 : w2.heap.size ≤ w3.heap.size := hB.size
  clear hC hB
  go_wp2_with fail
  have hnl := HNL.out.1
  have hC4 := HC3.out
  rw [show nowD (readD D) N = nowD D N from rfl, ← hnl] at hC4
  have hcl := clone8 (w := w3) a c (nowD D N) hC4 (by omega)
  rw [hnl] at hcl
  refine hcl.mono ?_
  rintro e w4 ⟨v, rfl, hr4, _, hb4⟩
  have HR4 := Aside0.mk hr4
  have HB4 := Aside0.mk hb4
  clear hr4 hb4 hC4 hcl
  go_wp2_with fail
  go_ret2
  have hbb := HB3.out.trans (HB4.out.mono HB3.out.size)
  exact ⟨_, rfl, Kd.R_lower HR4.out (by omega), HP2.out.below hbb, HF2.out.trans (.of_below hbb)⟩
end Disk
end Go.Proofs.YtclneeamemofoaaGreat
end
section
namespace Go.Proofs.YtclneeamemofoaaGreat
set_option linter.unusedVariables false
set_option linter.unusedSimpArgs false
open Go.RowKit Go.Proofs.YtclneeamemofoaaGreatW.PrintWords Go.Proofs.YtclneeamemofoaaGreatW.PrintLast Go.Proofs.YtclneeamemofoaaGreatW.PrintMore
namespace Disk
open Go.Disk PDiskDoes PChain
theorem infoW : (Tryz.prog.info? 103).map (fun i => (i.zero, i.size, i.bytes)) = some (some (.agg #[.int .i64 0, .slice none 0 0]), 2, 32) := by kernel_rfl
def waitD (D : Dk) (n : Int) (b : List Int) : Dk := { D with waits := D.waits ++ [(n, b)] }
theorem wait_ok {D : Dk} (h : Ok D) (n : Int) (b : List Int) (hn : 0 ≤ n ∧ n < D.safe.length) (hl : b.length = 256) (hb : ∀ x ∈ b, 0 ≤ x ∧ x ≤ 255) : Ok (waitD D n b) :=
  ⟨h.few, h.len, h.byte, fun p hp => by
    rcases List.mem_append.1 hp with h1 | h1
    · exact h.at_ p h1
    · simp at h1
      subst h1
      exact ⟨hn.1, hn.2, hl, hb⟩, h.left⟩
def writeD (D : Dk) (n : Int) (b : List Int) : Dk × Int :=
  if ready D n ≠ 0 then (D, ready D n) else if b.length ≠ 256 then (D, 11) else if D.left = 0 then (deedD (waitD D n b), 9) else ({ deedD (waitD D n b) with writes := wrap64 (D.writes + 1) }, 0)
set_option maxHeartbeats 8000000 in
set_option maxRecDepth 100000 in
theorem write_yes {w : World} {base db sb : Nat} {D : Dk} (h : PD w base db sb D) (N : Int) (hr : ready D N = 0) (a : Addr) (c : Nat) (bs : List Int) (hl : bs.length = 256) (hby : ∀ x ∈ bs, 0 ≤ x ∧ x ≤ 255) (hC : ∀ x, Below w.heap.size w x → Kd.C (Kd.int .u8) x (some a) bs.length bs) (hfew : D.waits.length ≤ 1000000) :
    Calls Tryz.prog 23 #[.pointer (some ⟨db, 0, none⟩), .int .i64 N, .slice (some a) bs.length c] w fun e w' => e = .returned (.int .i64 (writeD D N bs).2) ∧ PD w' base db sb (writeD D N bs).1 ∧ FP base db sb w w' := by
  have hN : 0 ≤ N ∧ N < D.safe.length := by
    unfold ready at hr
    split at hr
    · omega
    · split at hr
      · omega
      · omega
  have HP := Aside0.mk h
  have HR := Aside0.mk hr
  have HC := Aside0.mk hC
  have HBY := Aside0.mk hby
  obtain ⟨vw, cs, sp, hx⟩ := h
  obtain ⟨AW, cW, rfl⟩ := Kd.R_slice hx.waits
  have HX := Aside0.mk hx
  have hdl : db < w.heap.size := blk_lt hx.cells
  clear hx hr hC hby
  rw [hl]
  go_enter Tryz.func23, Tryz.ntmps23
  go_wp2_with fail
  refine (ready_any N HP.out).mono ?_
  rintro e w1 ⟨rfl, rfl⟩
  rw [HR.out]
  go_wp2_with fail
  have hm1 : ∀ m : Go.Reg.In (Below w1.heap.size w1), m.w.cell? ⟨db, 1, none⟩ = some (.slice AW D.waits.length cW) := fun m => by rw [m.h.cell hdl]; exact cell_blk HX.out.cells
  refine Go.Reg.region (Below w1.heap.size w1) [.p, .s, .s, .s, .s, .s, .s, .w, .s, .w, .x, .p, .p, .x] (by kernel_rfl) (by kernel_rfl) (below_drew1 (Below.refl _ _)) (fun ne => ?_)
  refine Go.Reg.lex_qp 1 _ _ _ _ _ (by rfl) ?_; simp only [List.take_succ_cons, List.take_zero, List.drop_succ_cons, List.drop_zero]; (repeat (go_big_quiet_step (rfl))); refine wpQuiet_nil ?_
  refine Go.Reg.lex_q 6 _ _ _ _ (by rfl) ?_; simp only [List.take_succ_cons, List.take_zero, List.drop_succ_cons, List.drop_zero]; (repeat (go_big_quiet_step (rfl))); refine wpQuiet_nil ?_
  refine Go.Reg.step_w (fun K hK => ?_)
  go_wp2_with fail
  have hcl := clone8 (w := w1.drew) a c bs (HC.out _ (below_drew1 (Below.refl _ _))) (by omega)
  rw [hl] at hcl
  refine hcl.mono ?_
  rintro e w2 ⟨vb, rfl, hrb, _, hb2⟩
  obtain ⟨AB, cB, rfl⟩ := Kd.R_slice hrb
  have HRB := Aside0.mk hrb
  have HB2 := Aside0.mk ((below_drew1 (Below.refl w1.heap.size w1)).trans hb2)
  rw [hl]
  clear hcl hrb hb2
  go_wp2_with fail
  refine hK.out _ _ HB2.out ?_
  clear hK K
  refine Go.Reg.lex_q 1 _ _ _ _ (by rfl) ?_; simp only [List.take_succ_cons, List.take_zero, List.drop_succ_cons, List.drop_zero]; (repeat (go_big_quiet_step (rfl))); refine wpQuiet_nil ?_
  refine Go.Reg.step_w (fun K hK => ?_)
  go_wp2_with fail
  refine hK.out _ _ (HB2.out.alloc HB2.out.size _) ?_
  clear hK K
  refine Go.Reg.step_x (by rfl) (fun K hK => ?_)
  have hs2 : w1.heap.size ≤ w2.heap.size := HB2.out.size
  have hsl : sb < w1.heap.size := blk_lt HX.out.safe
  have hdb := HX.out.dbase
  have HOW := Aside0.mk (Kd.R_lt HX.out.waits)
  have HX2 := Aside0.mk (HX.out.below HB2.out)
  refine Kd.R_append kW (w0 := w2) (W := w2) 0 rfl (.tmp 22) (.tmp 27) 49 103 (.agg #[.int .i64 0, .slice none 0 0]) 32 rfl Tryz.underlying49 infoW rfl (by decide) (by omega) (.slice AW D.waits.length cW) D.waits (N, bs) [.int .i64 N, .slice AB 256 cB] (fun k => k ≠ sb) (fun k => w1.heap.size ≤ k) rfl rfl ?aP ?aK ?aF ?aO (Below.refl _ _) ?aB ?aL ?_
  case aP => exact ⟨[.int .i64 N], [.slice AB 256 cB], rfl, rfl, _, rfl, by
    have h1 := HRB.out
    rw [hl] at h1
    exact Kd.R_mono (Kd.R_lower (Kd.R_bound h1) (Nat.zero_le _)) (fun k hk => hk.2.1)⟩
  case aK => exact fun k hk => ⟨by omega, fun e => by have := HOW.out k e.symm; omega⟩
  case aF => exact fun k hk => by omega
  case aO => exact HX2.out.waits
  case aB => omega
  case aL => omega
  intro v3 w3 ho3 _ hg3 hat3
  have HWO := Aside0.mk (show ∀ k, v3.ownBlock = some k → base ≤ k from fun k hk => by
    rcases hat3 with h | ⟨b, h1, h2⟩
    · exact HX.out.wown k (h ▸ hk)
    · rw [h1] at hk; cases hk; have := HX.out.dbase; omega)
  obtain ⟨A3, c3, rfl⟩ := Kd.R_slice ho3
  have hlen1 : (D.waits ++ [(N, bs)]).length = D.waits.length + 1 := by simp
  rw [hlen1] at ho3 HWO
  rw [hlen1]
  clear hlen1
  have HO3 := Aside0.mk ho3
  have hned : some db ≠ (Value.slice AW D.waits.length cW).ownBlock := Kd.R_ne HX2.out.waits HX2.out.cells (by decide)
  have hnes : some sb ≠ (Value.slice AW D.waits.length cW).ownBlock := fun e => (HX2.out.waits.1 sb e.symm) rfl
  have k3 := (hg3.block db (by omega) hned).trans HX2.out.cells
  have ks3 := (hg3.block sb (by omega) hnes).trans HX2.out.safe
  have HK3 := Aside0.mk k3
  have HS3 := Aside0.mk ks3
  have d1 : w3.cell? ⟨db, 1, none⟩ = some (.slice AW D.waits.length cW) := cell_blk k3
  have g1 : w3.frozen? ⟨db, 1, none⟩ = false := frozen_blk k3
  have HF3 := Aside0.mk (show FP base db sb w1 w3 from (Fr.of_below HB2.out).trans ⟨hg3.os, hg3.tape, hg3.output, hg3.size, fun k hk hne ht => hg3.block k hk (fun e => by
    obtain ⟨cells, hcells⟩ := own_typed (Kd.R_own HX2.out.waits).choose_spec k e.symm
    exact ht _ _ _ hcells ⟨HX2.out.wown k e.symm, rfl⟩)⟩)
  clear ho3 hg3 hat3 k3 ks3 hned hnes
  refine hK.out _ _ ?_
  clear hK K
  simp only [Act.put, List.setIfInBounds_toArray, List.set_cons_succ, List.set_cons_zero]
  refine Go.Reg.lex_qp 2 _ _ _ _ _ (by rfl) ?_; simp only [List.take_succ_cons, List.take_zero, List.drop_succ_cons, List.drop_zero]; (repeat (go_big_quiet_step (rfl))); refine wpQuiet_nil ?_
  refine Go.Reg.step_x (by rfl) (fun K hK => ?_)
  go_wp2_with fail
  refine hK.out _ _ ?_
  clear hK K
  refine Go.Reg.lex_nil ?_
  have hset := blk_set HK3.out 1 (.slice A3 (D.waits.length + 1) c3)
  obtain ⟨w4, hw4⟩ : ∃ w4, w4 = w3.setCell ⟨db, 1, none⟩ (.slice A3 (D.waits.length + 1) c3) := ⟨_, rfl⟩
  have hp4 : PD w4 base db sb (waitD D N bs) := by
    refine ⟨.slice A3 (D.waits.length + 1) c3, cs, sp, wait_ok HX.out.ok N bs hN hl HBY.out, HX.out.dbase, HX.out.sbase, HWO.out, ?_, ?_, ?_, HX.out.room⟩
    · rw [hw4, hset]; rfl
    · rw [hw4]; exact Kd.R_set HO3.out HK3.out (by decide) 1 _
    · rw [hw4, Below.heap_setCell _ _ _ _ (Ne.symm HX.out.ne)]; exact HS3.out
  have hf4 : FP base db sb w1 w4 := by rw [hw4]; exact HF3.out.trans (.set _ _ _ _ (.inl rfl))
  try rw [← hw4]
  have HP4 := Aside0.mk hp4
  have HF4 := Aside0.mk hf4
  clear hw4 hset hp4 hf4 d1 g1
  go_wp2_with fail
  refine (deed_any HP4.out).mono ?_
  rintro e w5 ⟨rfl, hp5, hf5⟩
  have HP5 := Aside0.mk hp5
  have HF5 := Aside0.mk (HF4.out.trans hf5)
  clear hp5 hf5
  have hwd : writeD D N bs = if D.left = 0 then (deedD (waitD D N bs), 9) else ({ deedD (waitD D N bs) with writes := wrap64 (D.writes + 1) }, 0) := by
    unfold writeD
    rw [HR.out, if_neg (by simp), if_neg (by rw [hl]; simp)]
  have HWD := Aside0.mk hwd
  clear hwd
  by_cases hz : D.left = 0
  · rw [show (waitD D N bs).left = D.left from rfl, if_pos hz]
    go_wp2_with fail
    go_ret
    rw [HWD.out, if_pos hz]
    exact ⟨rfl, HP5.out, HF5.out⟩
  · rw [show (waitD D N bs).left = D.left from rfl, if_neg hz]
    obtain ⟨vw5, cs5, sp5, hx5⟩ := HP5.out
    have hwr : (deedD (waitD D N bs)).writes = D.writes := by unfold deedD; rw [show (waitD D N bs).left = D.left from rfl, if_neg hz]; rfl
    have c5 : w5.cell? ⟨db, 5, none⟩ = some (.int .i64 D.writes) := by rw [← hwr]; exact cell_blk hx5.cells
    have f5 : w5.frozen? ⟨db, 5, none⟩ = false := frozen_blk hx5.cells
    have HX5 := Aside0.mk hx5
    have HWR := Aside0.mk hwr
    clear hx5 hwr
    go_wp2_with fail
    refine (add_at _ db 5 D.writes 1 c5 f5).mono ?_
    rintro e w6 ⟨rfl, hw6⟩
    have hp6 : PD w6 base db sb { deedD (waitD D N bs) with writes := wrap64 (D.writes + 1) } := ⟨vw5, cs5, sp5, by rw [hw6]; exact HX5.out.put 5 _ (cnt_ok HX5.out.ok rfl rfl rfl) rfl rfl rfl⟩
    have hf6 : FP base db sb w1 w6 := by rw [hw6]; exact HF5.out.trans (.set _ _ _ _ (.inl rfl))
    clear hw6
    go_wp2_with fail
    go_ret
    rw [HWD.out, if_neg hz]
    exact ⟨rfl, hp6, hf6⟩
end Disk
end Go.Proofs.YtclneeamemofoaaGreat
namespace Go.Proofs.YtclneeamemofoaaGreat
set_option linter.unusedVariables false
set_option linter.unusedSimpArgs false
open Go.RowKit Go.Proofs.YtclneeamemofoaaGreatW.PrintWords Go.Proofs.YtclneeamemofoaaGreatW.PrintLast Go.Proofs.YtclneeamemofoaaGreatW.PrintMore
namespace Disk
open Go.Disk PDiskDoes PChain
set_option maxHeartbeats 8000000 in
set_option maxRecDepth 100000 in
theorem write_no {w : World} {base db sb : Nat} {D : Dk} (h : PD w base db sb D) (N : Int) (hr : ready D N ≠ 0) (A : Option Addr) (l c : Nat) :
    Calls Tryz.prog 23 #[.pointer (some ⟨db, 0, none⟩), .int .i64 N, .slice A l c] w fun e w' => e = .returned (.int .i64 (ready D N)) ∧ w' = w := by
  obtain ⟨r, hrr⟩ : ∃ r, r = ready D N := ⟨_, rfl⟩
  rw [← hrr] at hr ⊢
  have HR := Aside0.mk hrr
  clear hrr
  have hb : (r != 0) = true := by simpa using hr
  go_enter Tryz.func23, Tryz.ntmps23
  go_wp2_with fail
  refine (ready_any N h).mono ?_
  rintro e w1 ⟨rfl, rfl⟩
  rw [← HR.out]
  go_wp2_with fail
  go_ret
  exact ⟨rfl, rfl⟩
set_option maxHeartbeats 8000000 in
set_option maxRecDepth 100000 in
theorem write_size {w : World} {base db sb : Nat} {D : Dk} (h : PD w base db sb D) (N : Int) (hr : ready D N = 0) (A : Option Addr) (l c : Nat) (hl : l ≠ 256) :
    Calls Tryz.prog 23 #[.pointer (some ⟨db, 0, none⟩), .int .i64 N, .slice A l c] w fun e w' => e = .returned (.int .i64 11) ∧ w' = w := by
  have HR := Aside0.mk hr
  have hb : ((l : Int) != 256) = true := by simp; omega
  clear hr
  go_enter Tryz.func23, Tryz.ntmps23
  go_wp2_with fail
  refine (ready_any N h).mono ?_
  rintro e w1 ⟨rfl, rfl⟩
  rw [HR.out]
  go_wp2_with fail
  go_ret
  exact ⟨rfl, rfl⟩
set_option maxHeartbeats 8000000 in
set_option maxRecDepth 100000 in
theorem flush_no {w : World} {base db sb : Nat} {D : Dk} (h : PD w base db sb D) (hr : ready D 0 ≠ 0) :
    Calls Tryz.prog 31 #[.pointer (some ⟨db, 0, none⟩)] w fun e w' => e = .returned (.int .i64 (ready D 0)) ∧ w' = w := by
  obtain ⟨r, hrr⟩ : ∃ r, r = ready D 0 := ⟨_, rfl⟩
  rw [← hrr] at hr ⊢
  have HR := Aside0.mk hrr
  clear hrr
  have hb : (r != 0) = true := by simpa using hr
  go_enter Tryz.func31, Tryz.ntmps31
  go_wp2_with fail
  refine (ready_any 0 h).mono ?_
  rintro e w1 ⟨rfl, rfl⟩
  rw [← HR.out]
  go_wp2_with fail
  go_ret
  exact ⟨rfl, rfl⟩
set_option maxHeartbeats 8000000 in
set_option maxRecDepth 100000 in
theorem flush_stop {w : World} {base db sb : Nat} {D : Dk} (h : PD w base db sb D) (hr : ready D 0 = 0) (hl : D.left = 0) :
    Calls Tryz.prog 31 #[.pointer (some ⟨db, 0, none⟩)] w fun e w' => e = .returned (.int .i64 9) ∧ PD w' base db sb (deedD D) ∧ FP base db sb w w' := by
  have HR := Aside0.mk hr
  have HL := Aside0.mk hl
  have HP := Aside0.mk h
  clear hr hl h
  go_enter Tryz.func31, Tryz.ntmps31
  go_wp2_with fail
  refine (ready_any 0 HP.out).mono ?_
  rintro e w1 ⟨rfl, rfl⟩
  rw [HR.out]
  go_wp2_with fail
  refine (deed_any HP.out).mono ?_
  rintro e w2 ⟨rfl, hp2, hf2⟩
  rw [if_pos HL.out]
  go_wp2_with fail
  go_ret
  exact ⟨rfl, hp2, hf2⟩
end Disk
end Go.Proofs.YtclneeamemofoaaGreat
namespace Go.Proofs.YtclneeamemofoaaGreat
set_option linter.unusedVariables false
set_option linter.unusedSimpArgs false
open Go.RowKit Go.Proofs.YtclneeamemofoaaGreatW.PrintWords Go.Proofs.YtclneeamemofoaaGreatW.PrintLast Go.Proofs.YtclneeamemofoaaGreatW.PrintMore
namespace Disk
open Go.Disk PDiskDoes PChain
def fillTo (f : Nat → Int) (n i : Nat) : List Int := (List.range n).map fun j => if j < i then f j else 0
theorem fill_len (f : Nat → Int) (n i : Nat) : (fillTo f n i).length = n := by simp [fillTo]
theorem fill_zero (f : Nat → Int) (n : Nat) : fillTo f n 0 = List.replicate n 0 := by
  apply List.ext_getElem
  · rw [fill_len, List.length_replicate]
  · intro i h1 h2
    simp [fillTo]
theorem fill_set (f : Nat → Int) (n i : Nat) : (fillTo f n i).set i (f i) = fillTo f n (i + 1) := by
  apply List.ext_getElem
  · rw [List.length_set, fill_len, fill_len]
  · intro j h1 h2
    rw [List.getElem_set]
    simp only [fillTo, List.getElem_map, List.getElem_range]
    by_cases hj : i = j
    · subst hj; simp
    · rw [if_neg hj]
      by_cases hl : j < i
      · rw [if_pos hl, if_pos (by omega)]
      · rw [if_neg hl, if_neg (by omega)]
theorem fill_mem (f : Nat → Int) (n i : Nat) (P : Int → Prop) (h0 : P 0) (hf : ∀ j, P (f j)) : ∀ x ∈ fillTo f n i, P x := by
  intro x hx
  simp only [fillTo, List.mem_map] at hx
  obtain ⟨j, _, rfl⟩ := hx
  split
  · exact hf j
  · exact h0
def rep8 (bs : List Int) (j : Nat) : Int := bs.getD (j % bs.length) 0
def blockOf (bs : List Int) : List Int := if bs.length = 0 then List.replicate 256 0 else fillTo (rep8 bs) 256 256
theorem block_len (bs : List Int) : (blockOf bs).length = 256 := by
  unfold blockOf
  split
  · exact List.length_replicate
  · exact fill_len _ _ _
theorem block_mem (bs : List Int) (h : ∀ x ∈ bs, 0 ≤ x ∧ x ≤ 255) : ∀ x ∈ blockOf bs, 0 ≤ x ∧ x ≤ 255 := by
  unfold blockOf
  split
  · intro x hx
    rw [(List.mem_replicate.1 hx).2]
    omega
  · refine fill_mem _ _ _ _ (by omega) (fun j => ?_)
    unfold rep8
    rw [List.getD_eq_getElem?_getD]
    cases hg : bs[j % bs.length]? with
    | none => simp
    | some x => exact h x (List.mem_of_getElem? hg)
theorem wrap_id (z : Int) (h0 : -9223372036854775808 ≤ z) (h1 : z ≤ 9223372036854775807) : wrap64 z = z := by
  first | (unfold wrap64; omega) | (simp [wrap64]; omega)
theorem block_l (bs : List Int) (hb : bs.length ≠ 0) : ∀ (k i : Nat), 256 < i + k → i ≤ 256 → chantrylaw06_Block.l0 k bs (fillTo (rep8 bs) 256 i) i = some (fillTo (rep8 bs) 256 256)
  | 0, i, h, _ => by omega
  | k + 1, i, h, hi => by
    simp only [chantrylaw06_Block.l0]
    by_cases hlt : i < 256
    · have hm : Int.tmod (i : Int) (bs.length : Int) = ((i % bs.length : Nat) : Int) := by rw [Int.tmod_eq_emod_of_nonneg (by omega)]; rfl
      have hmlt : i % bs.length < bs.length := Nat.mod_lt _ (by omega)
      rw [if_pos (by omega), if_pos (by omega), if_neg (by omega), hm, if_pos (by omega), if_pos (by omega), if_pos (by omega), fill_len, if_pos (by omega), Int.toNat_natCast]
      have hr : rd bs ((i % bs.length : Nat) : Int) = rep8 bs i := by unfold rd rep8; rw [Int.toNat_natCast]
      rw [hr, fill_set, wrap_id _ (by omega) (by omega)]
      exact block_l bs hb k (i + 1) (by omega) (by omega)
    · have : i = 256 := by omega
      subst this
      rw [if_neg (by omega)]
theorem block_nil (bs : List Int) (hb : bs.length = 0) (k : Nat) (acc : List Int) : chantrylaw06_Block.l0 (k + 1) bs acc 0 = some acc := by
  simp only [chantrylaw06_Block.l0]
  rw [if_pos (by omega), if_neg (by omega)]
theorem block_plain (bs : List Int) : chantrylaw06_Block.f 300 bs = some (blockOf bs) := by
  unfold chantrylaw06_Block.f blockOf
  rw [if_pos (by omega)]
  by_cases hb : bs.length = 0
  · rw [if_pos hb]
    exact block_nil bs hb 299 _
  · rw [if_neg hb, ← fill_zero (rep8 bs) 256]
    exact block_l bs hb 300 0 (by omega) (by omega)
theorem Block_any {w : World} (A : Option Addr) (c : Nat) (bs : List Int) (hC : Kd.C (Kd.int .u8) w A bs.length bs) (hc : bs.length ≤ c) :
    Calls Tryz.prog 64 #[.slice A bs.length c] w fun e w' => ∃ a c', e = .returned (.slice (some a) 256 c') ∧ 256 ≤ c' ∧ Kd.R (Kd.int .u8) 5 w' w.heap.size (fun _ => True) (.slice (some a) 256 c') (blockOf bs) ∧ Below w.heap.size w w' := by
  refine (chantrylaw06_Block.calls 300 A c bs (blockOf bs) w hC hc (block_plain bs)).mono ?_
  rintro e w' ⟨v, rfl, hr, hb⟩
  obtain ⟨A', c', rfl⟩ := Kd.R_slice hr
  have hl := block_len bs
  obtain ⟨a, ha, _⟩ := Kd.at_int (Kd.R_reads' hr).2.2 0 (by omega) (by omega)
  subst ha
  have hc' := (Kd.R_reads' hr).2.1
  rw [hl] at hr hc' ⊢
  exact ⟨a, c', rfl, hc', hr, hb⟩
end Disk
end Go.Proofs.YtclneeamemofoaaGreat
namespace Go.Proofs.YtclneeamemofoaaGreat
set_option linter.unusedVariables false
set_option linter.unusedSimpArgs false
open Go.RowKit Go.Proofs.YtclneeamemofoaaGreatW.PrintWords Go.Proofs.YtclneeamemofoaaGreatW.PrintLast Go.Proofs.YtclneeamemofoaaGreatW.PrintMore
namespace Disk
open Go.Disk PDiskDoes PChain
theorem put_block {w : World} {base db sb cs : Nat} {D : Dk} {vw : Value} {sp : List Value} (h : PDx w base db sb D vw cs sp) (n : Nat) (hn : n < D.safe.length) (a : Addr) (c : Nat) (bs : List Int) (hl : bs.length = 256) (hby : ∀ x ∈ bs, 0 ≤ x ∧ x ≤ 255) (hC : Kd.C (Kd.int .u8) w (some a) bs.length bs) :
    ∃ w', (Builtin.copy_ #[39, 39] 3 #[.slice (some ⟨sb, n * 256, none⟩) 256 256, .slice (some a) 256 c]).run Tryz.prog w = .ok (.int .i64 256) w' ∧ PDx w' base db sb { D with safe := D.safe.set n bs } vw cs sp ∧ Fr (fun k => k = sb) (fun _ _ => False) w w' := by
  have hfl := flatLen h.ok
  obtain ⟨w', h1, h2, h3⟩ := copy_in (w := w) (g := sb) (o := n * 256) (dl := 256) (dc := 256) (sl := 256) (sc := c) a D.safe.flatten bs sp h.safe (by omega) (by rw [hl]; rfl) (fun j hj => by
    obtain ⟨ad, e, hcell⟩ := Kd.at_int hC (j : Int) (by omega) (by omega)
    cases e
    rw [Int.toNat_natCast] at hcell
    rw [hcell]
    unfold rd
    rw [Int.toNat_natCast])
  have hlb := lay_block h.ok.len n hn D.safe[n] bs (h.ok.len _ (List.getElem_mem hn)) 0 (by omega)
  have hself : lay D.safe[n] 0 bs = bs := by
    unfold lay
    rw [List.take_zero, List.nil_append, List.drop_eq_nil_of_le (by rw [h.ok.len _ (List.getElem_mem hn)]; omega), List.append_nil]
  rw [hself, List.set_getElem_self, Nat.add_zero] at hlb
  rw [hlb] at h2
  rw [hl] at h1
  have hok := ok_set h.ok n bs hl hby
  have hfl2 : (D.safe.set n bs).flatten.length = D.safe.flatten.length := by
    rw [flat_len hok.len, hfl, List.length_set]
  refine ⟨w', h1, ⟨hok, h.dbase, h.sbase, h.wown, ?_, ?_, h2, ?_⟩, h3⟩
  · show w'.heap[db]? = some (.cells #[.slice (some ⟨sb, 0, none⟩) (D.safe.set n bs).flatten.length cs, _, _, _, _, _, _] _ _)
    rw [hfl2]
    exact (h3.block db (blk_lt h.cells) h.ne (fun _ _ _ _ h => h)).trans h.cells
  · exact Kd.R_step h.waits (fun j hj hlt => h3.block j hlt hj (fun _ _ _ _ h => h))
  · show (D.safe.set n bs).flatten.length + sp.length = cs
    rw [hfl2]
    exact h.room
def flushTo : List (List Int) → List (Int × List Int) → List (List Int)
  | s, p :: ws => flushTo (s.set p.1.toNat p.2) ws
  | s, [] => s
theorem flushTo_len : ∀ (ws : List (Int × List Int)) (s : List (List Int)), (flushTo s ws).length = s.length
  | [], s => rfl
  | p :: ws, s => by
    show (flushTo (s.set p.1.toNat p.2) ws).length = _
    rw [flushTo_len ws, List.length_set]
theorem flushTo_snoc : ∀ (ws : List (Int × List Int)) (s : List (List Int)) (p : Int × List Int), flushTo s (ws ++ [p]) = (flushTo s ws).set p.1.toNat p.2
  | [], s, p => rfl
  | q :: ws, s, p => flushTo_snoc ws _ p
def safeTo (D : Dk) (i : Nat) : Dk := { D with safe := flushTo D.safe (D.waits.take i) }
theorem safeTo_next (D : Dk) (i : Nat) (hi : i < D.waits.length) : safeTo D (i + 1) = { safeTo D i with safe := (safeTo D i).safe.set D.waits[i].1.toNat D.waits[i].2 } := by
  unfold safeTo
  rw [List.take_succ_eq_append_getElem hi, flushTo_snoc]
def flushD (D : Dk) : Dk := { safeTo D D.waits.length with waits := [], flushes := wrap64 (D.flushes + 1) }
theorem none_ok {D : Dk} (h : Ok D) : Ok { D with waits := [] } := ⟨h.few, h.len, h.byte, fun p hp => by simp at hp, h.left⟩
set_option maxHeartbeats 8000000 in
set_option maxRecDepth 100000 in
theorem flush_yes {w : World} {base db sb : Nat} {D : Dk} (h : PD w base db sb D) (hr : ready D 0 = 0) (hl : D.left ≠ 0) (hfew : D.waits.length ≤ 1000000) :
    Calls Tryz.prog 31 #[.pointer (some ⟨db, 0, none⟩)] w fun e w' => e = .returned (.int .i64 0) ∧ PD w' base db sb (flushD (deedD D)) ∧ FP base db sb w w' := by
  have HR := Aside0.mk hr
  have HL := Aside0.mk hl
  have HP := Aside0.mk h
  obtain ⟨E, hE⟩ : ∃ E, E = deedD D := ⟨_, rfl⟩
  have hwe : E.waits = D.waits := by rw [hE]; unfold deedD; rw [if_neg hl]
  rw [← hE]
  rw [← hwe] at hfew
  have HE := Aside0.mk hE
  clear hr hl h hE hwe
  go_enter Tryz.func31, Tryz.ntmps31
  go_wp2_with fail
  refine (ready_any 0 HP.out).mono ?_
  rintro e w1 ⟨rfl, rfl⟩
  rw [HR.out]
  go_wp2_with fail
  refine (deed_any HP.out).mono ?_
  rintro e w2 ⟨rfl, hp2, hf2⟩
  rw [if_neg HL.out]
  rw [← HE.out] at hp2
  obtain ⟨vw, cs, sp, hx⟩ := hp2
  have HX := Aside0.mk hx
  have HF2 := Aside0.mk hf2
  obtain ⟨AW, cW, rfl, hcW, _⟩ := Kd.R_reads hx.waits
  have c1 : w2.cell? ⟨db, 1, none⟩ = some (.slice AW E.waits.length cW) := cell_blk hx.cells
  clear hf2 hx
  go_wp2_with fail
  have HXS := Aside0.mk (show PDx w2 base db sb (safeTo E 0) (.slice AW E.waits.length cW) cs sp from HX.out)
  have HFS := Aside0.mk (Fr.refl (fun k => k = sb) (fun _ _ => False) w2)
  go_loopg [22, 6] E.waits.length (fun g v22 v6 wr => ∃ (i : Nat), Aside0 (i + g = E.waits.length) ∧ v22 = .int .i64 i ∧ Aside0 (PDx wr base db sb (safeTo E i) (.slice AW E.waits.length cW) cs sp) ∧ Aside0 (Fr (fun k => k = sb) (fun _ _ => False) w2 wr))
  case atStart => exact ⟨0, ⟨by omega⟩, rfl, HXS, HFS⟩
  case round =>
    clear HXS HFS
    obtain ⟨i, HI, rfl, HXR, HF⟩ := hrel
    by_cases hi : i < E.waits.length
    · obtain ⟨g, cap, vb, hvw, hw0, hw1, hwr, hgs, hgl, _⟩ := W_at HXR.out.waits i hi
      cases hvw
      obtain ⟨ab, cb, hvb, hcb, _⟩ := Kd.R_reads hwr
      subst hvb
      have hat := HX.out.ok.at_ _ (List.getElem_mem hi)
      have HNX := Aside0.mk (safeTo_next E i hi)
      have e1 : (safeTo E i).waits[i]'hi = E.waits[i] := rfl
      rw [e1] at hw0 hw1 hwr hcb
      clear e1
      obtain ⟨N, hN⟩ : ∃ N, N = E.waits[i].1 := ⟨_, rfl⟩
      obtain ⟨bs, hbs⟩ : ∃ bs, bs = E.waits[i].2 := ⟨_, rfl⟩
      rw [← hN, ← hbs] at hat
      rw [← hN] at hw0
      rw [← hbs] at hw1 hwr hcb
      rw [← hN, ← hbs] at HNX
      clear hN hbs
      have HWR := Aside0.mk hwr
      have HAT := Aside0.mk hat
      clear hwr hat
      obtain ⟨aw, haw, _⟩ := Kd.at_int (Kd.R_reads' HWR.out).2.2 0 (by omega) (by have := HAT.out.2.2.1; omega)
      subst haw
      rw [HAT.out.2.2.1] at hw1
      go_wp2_with fail
      obtain ⟨V, hV⟩ : ∃ V, V = wr.alloc (.cells #[.int .i64 N, .slice (some aw) 256 cb] 103) := ⟨_, rfl⟩
      have hal : Below wr.heap.size wr V := by rw [hV]; exact (Below.refl _ _).alloc (Nat.le_refl _) _
      have hbx : V.heap[wr.heap.size]? = some (.cells #[.int .i64 N, .slice (some aw) 256 cb] 103 (0, 0)) := by rw [hV]; exact heap_alloc_new wr _
      rw [← hV]
      have HBX := Aside0.mk hbx
      have HAL := Aside0.mk hal
      have HXV := Aside0.mk (HXR.out.below (hal.trans (below_drew1 (Below.refl _ _))))
      clear hV hal hbx hw0 hw1
      obtain ⟨n, hn⟩ : ∃ n : Nat, N = n := ⟨N.toNat, by have := HAT.out.1; omega⟩
      subst hn
      have hnl : n < (safeTo E i).safe.length := by show n < (flushTo _ _).length; rw [flushTo_len]; have := HAT.out.2.1; omega
      have hfew2 := HXV.out.ok.few
      have hfl : (safeTo E i).safe.flatten.length = (safeTo E i).safe.length * 256 := flatLen HXV.out.ok
      have hroom : (safeTo E i).safe.length * 256 ≤ cs := by have := HXV.out.room; omega
      have hm0 : ∀ m : Go.Reg.In (fun x => x = V.drew), m.w.cell? ⟨db, 0, none⟩ = some (.slice (some ⟨sb, 0, none⟩) ((safeTo E i).safe.length * 256) cs) := fun m => by rw [m.h, ← hfl]; exact cell_blk HXV.out.cells
      have hm1 : ∀ m : Go.Reg.In (fun x => x = V.drew), m.w.cell? ⟨wr.heap.size, 0, none⟩ = some (.int .i64 n) := fun m => by rw [m.h]; exact cell_blk (w := V) HBX.out
      have hm2 : ∀ m : Go.Reg.In (fun x => x = V.drew), m.w.cell? ⟨wr.heap.size, 1, none⟩ = some (.slice (some aw) 256 cb) := fun m => by rw [m.h]; exact cell_blk (w := V) HBX.out
      obtain ⟨L, hL⟩ : ∃ L, L = (safeTo E i).safe.length := ⟨_, rfl⟩
      rw [← hL] at hm0 hfew2 hnl hroom
      have HLL := Aside0.mk hL
      clear hL hfl
      obtain ⟨w7, hcp, hx7, hf7⟩ := put_block HXV.out n (by rw [← HLL.out]; exact hnl) aw cb bs HAT.out.2.2.1 HAT.out.2.2.2 (Kd.R_reads' (Kd.R_below HWR.out (HAL.out.trans (below_drew1 (Below.refl _ _))))).2.2
      have HX7 := Aside0.mk hx7
      have HF7 := Aside0.mk (HF.out.trans ((Fr.of_below (HAL.out.trans (below_drew1 (Below.refl _ _)))).trans hf7))
      clear hx7 hf7
      refine Go.Reg.region (fun x => x = V.drew) [.s, .s, .s, .s, .s, .s, .w, .s, .s, .x] (by kernel_rfl) (by kernel_rfl) rfl (fun ne => ?_)
      refine Go.Reg.lex_q 6 _ _ _ _ (by rfl) ?_; simp only [List.take_succ_cons, List.take_zero, List.drop_succ_cons, List.drop_zero]; (repeat (go_big_quiet_step (rfl))); refine wpQuiet_nil ?_
      refine Go.Reg.step_w (fun K hK => ?_)
      go_wp2_with fail
      refine (block_at sb L cs n hnl (by omega) hroom).mono ?_
      rintro e w5 ⟨rfl, rfl⟩
      go_wp2_with fail
      refine hK.out _ _ rfl ?_
      clear hK K
      refine Go.Reg.lex_q 2 _ _ _ _ (by rfl) ?_; simp only [List.take_succ_cons, List.take_zero, List.drop_succ_cons, List.drop_zero]; (repeat (go_big_quiet_step (rfl))); refine wpQuiet_nil ?_
      refine Go.Reg.step_x (by rfl) (fun K hK => ?_)
      clear hm0 hm1 hm2
      go_wp2_with fail
      refine hK.out _ _ ?_
      clear hK K
      refine Go.Reg.lex_nil ?_
      clear hcp
      go_wp2_with fail
      go_roundg (gk - 1)
      case measure => have := HI.out; omega
      case rel => exact ⟨i + 1, ⟨by have := HI.out; omega⟩, by go_num, ⟨by rw [HNX.out]; exact HX7.out⟩, HF7⟩
    · have hin : i = E.waits.length := by have := HI.out; omega
      subst hin
      have c1' : wr.cell? ⟨db, 1, none⟩ = some (.slice AW E.waits.length cW) := cell_blk HXR.out.cells
      have f1' : wr.frozen? ⟨db, 1, none⟩ = false := frozen_blk HXR.out.cells
      go_wp2_with fail
      have hx := HXR.out
      have hb1 := blk_set hx.cells 1 (.slice none 0 0)
      obtain ⟨w8, hw8⟩ : ∃ w8, w8 = wr.setCell ⟨db, 1, none⟩ (.slice none 0 0) := ⟨_, rfl⟩
      rw [← hw8] at hb1 ⊢
      have hx8 : PDx w8 base db sb { safeTo E E.waits.length with waits := [] } (.slice none 0 0) cs sp := by
        refine ⟨none_ok hx.ok, hx.dbase, hx.sbase, fun _ h => by simp [Value.ownBlock] at h, ?_, Kd.R_nil _ _ _ _ _, ?_, hx.room⟩
        · rw [hb1]; rfl
        · rw [hw8, Below.heap_setCell _ _ _ _ (Ne.symm hx.ne)]; exact hx.safe
      have HX8 := Aside0.mk hx8
      have HF8 := Aside0.mk (show FP base db sb w1 w8 by rw [hw8]; exact HF2.out.trans ((HF.out.mono (fun _ h => .inr h) (fun _ _ h => h.elim)).trans (Fr.set _ _ _ _ (.inl rfl))))
      clear hw8 hb1 hx8 hx c1' f1'
      have c6 : w8.cell? ⟨db, 6, none⟩ = some (.int .i64 E.flushes) := cell_blk HX8.out.cells
      have f6 : w8.frozen? ⟨db, 6, none⟩ = false := frozen_blk HX8.out.cells
      go_wp2_with fail
      refine (add_at _ db 6 E.flushes 1 c6 f6).mono ?_
      rintro e w9 ⟨rfl, hw9⟩
      have hp9 : PD w9 base db sb (flushD E) := ⟨.slice none 0 0, cs, sp, by rw [hw9]; exact HX8.out.put 6 _ (D' := flushD E) (cnt_ok HX8.out.ok rfl rfl rfl) rfl rfl rfl⟩
      have hf9 : FP base db sb w1 w9 := by rw [hw9]; exact HF8.out.trans (.set _ _ _ _ (.inl rfl))
      clear hw9
      go_wp2_with fail
      go_ret
      exact ⟨rfl, hp9, hf9⟩
end Disk
end Go.Proofs.YtclneeamemofoaaGreat
namespace Go.Proofs.YtclneeamemofoaaGreat
set_option linter.unusedVariables false
set_option linter.unusedSimpArgs false
open Go.RowKit Go.Proofs.YtclneeamemofoaaGreatW.PrintWords Go.Proofs.YtclneeamemofoaaGreatW.PrintLast Go.Proofs.YtclneeamemofoaaGreatW.PrintMore
namespace Disk
open Go.Disk PDiskDoes PChain
def imageTo (D : Dk) (i : Nat) : List Int := ((List.range i).map (fun n : Nat => nowD D (n : Int))).flatten
def imageD (D : Dk) : List Int := imageTo D D.safe.length
theorem imageTo_next (D : Dk) (i : Nat) : imageTo D (i + 1) = imageTo D i ++ nowD D (i : Int) := by
  unfold imageTo
  rw [List.range_succ, List.map_append, List.flatten_append, List.map_cons, List.map_nil, List.flatten_cons, List.flatten_nil, List.append_nil]
theorem imageTo_len {D : Dk} (h : Ok D) : ∀ i, i ≤ D.safe.length → (imageTo D i).length = i * 256
  | 0, _ => by simp [imageTo]
  | i + 1, hi => by
    rw [imageTo_next, List.length_append, imageTo_len h i (by omega), (now_len h (i : Int) ⟨by omega, by omega⟩).1]
    omega
set_option maxHeartbeats 8000000 in
set_option maxRecDepth 100000 in
theorem image_any {w : World} {base db sb : Nat} {D : Dk} (h : PD w base db sb D) (hfew : D.waits.length ≤ 1000000) :
    Calls Tryz.prog 39 #[.pointer (some ⟨db, 0, none⟩)] w fun e w' => ∃ v, e = .returned v ∧ Kd.R (Kd.int .u8) 5 w' w.heap.size (fun _ => True) v (imageD D) ∧ Below w.heap.size w w' := by
  have HP := Aside0.mk h
  have HOK := Aside0.mk h.ok
  have hn := h.ok.few
  obtain ⟨n, hnn⟩ : ∃ n, n = D.safe.length := ⟨_, rfl⟩
  have HN := Aside0.mk hnn
  rw [← hnn] at hn
  clear h hnn
  go_enter Tryz.func39, Tryz.ntmps39
  go_wp2_with fail
  refine (blocks_any HP.out).mono ?_
  rintro e w1 ⟨rfl, rfl⟩
  rw [← HN.out]
  go_wp2_with fail
  go_loopg [7, 4, 3] n (fun g v7 v4 v3 wr => ∃ (i : Nat) (A : Option Addr) (c : Nat), Aside0 (i + g = n) ∧ v7 = .int .i64 i ∧ v3 = .slice A (imageTo D i).length c ∧ Aside0 (Kd.R (Kd.int .u8) 5 wr w1.heap.size (fun _ => True) (.slice A (imageTo D i).length c) (imageTo D i)) ∧ Aside0 (Below w1.heap.size w1 wr))
  case atStart => exact ⟨0, none, 0, ⟨by omega⟩, rfl, rfl, ⟨Kd.R_nil _ _ _ _ _⟩, ⟨Below.refl _ _⟩⟩
  case round =>
    obtain ⟨i, A, c, HI, rfl, rfl, HR, HB⟩ := hrel
    by_cases hi : i < n
    · go_wp2_with fail
      refine (now_any (HP.out.below HB.out) (i : Int) ⟨by omega, by rw [← HN.out]; omega⟩ (by omega)).mono ?_
      rintro e w2 ⟨a2, c2, rfl, hc2, hC2, b⟩
      have HC2 := Aside0.mk hC2
      have HR2 := Aside0.mk (Kd.R_below HR.out b)
      have HB2 := Aside0.mk (HB.out.trans (b.mono HB.out.size))
      clear hC2 b
      go_wp2_with ((with_reducible refine gate_builtin (b := .append) (xs := #[.tmp 10, .tmp 13]) rfl ?_); at_builtin; refine Hid.out ?_)
      refine Lib.hid ?_
      have hlen := imageTo_len HOK.out i (by rw [← HN.out]; omega)
      refine Kd.R_append_rows (Kd.int .u8) (Rr := (Kd.int .u8).K w2) (w0 := w1) w1.heap.size rfl (.tmp 10) (.tmp 13) 39 5 (.int .u8 0) 1 rfl Tryz.underlying39 infoU8 rfl (by decide) (by omega) (.slice A (imageTo D i).length c) (imageTo D i) (nowD D (i : Int)) (some a2) 256 c2 (fun _ => True) (fun _ => False) rfl rfl HR2.out HC2.out (fun x cs h => h) (fun _ hk => hk.elim) (fun _ _ => trivial) HB2.out HB2.out.size (by omega) ?_
      intro v3 w3 ho hb _ _
      obtain ⟨A3, c3, rfl⟩ := Kd.R_slice ho
      rw [← imageTo_next] at ho ⊢
      have HO := Aside0.mk ho
      have HB3 := Aside0.mk hb
      clear ho hb hlen
      go_wp2_with fail
      go_roundg (gk - 1)
      case measure => have := HI.out; omega
      case rel => exact ⟨i + 1, A3, c3, ⟨by have := HI.out; omega⟩, by go_num, rfl, HO, HB3⟩
    · have hin : i = n := by have := HI.out; omega
      subst hin
      go_wp2_with fail
      go_ret
      refine ⟨_, rfl, ?_, HB.out⟩
      unfold imageD
      rw [← HN.out]
      exact HR.out
set_option maxHeartbeats 8000000 in
set_option maxRecDepth 100000 in
theorem safe_any {w : World} {base db sb : Nat} {D : Dk} (h : PD w base db sb D) :
    Calls Tryz.prog 41 #[.pointer (some ⟨db, 0, none⟩)] w fun e w' => ∃ v, e = .returned v ∧ Kd.R (Kd.int .u8) 5 w' w.heap.size (fun _ => True) v D.safe.flatten ∧ Below w.heap.size w w' := by
  obtain ⟨vw, cs, sp, hx⟩ := h
  have c0 : w.cell? ⟨db, 0, none⟩ = some (.slice (some ⟨sb, 0, none⟩) D.safe.flatten.length cs) := cell_blk hx.cells
  have hfl := flatLen hx.ok
  have hfew := hx.ok.few
  have HX := Aside0.mk hx
  clear hx
  obtain ⟨F, hF⟩ : ∃ F, F = D.safe.flatten := ⟨_, rfl⟩
  have HF := Aside0.mk hF
  have hle : F.length ≤ 262144 := by rw [hF]; omega
  rw [← hF] at c0 ⊢
  clear hF hfl
  go_enter Tryz.func41, Tryz.ntmps41
  go_wp2_with fail
  refine (clone8 ⟨sb, 0, none⟩ cs F ?c1 hle).mono ?_
  case c1 =>
    have hs := HX.out.safe
    rw [← HF.out] at hs
    refine ⟨rfl, by omega, fun _ => ⟨_, rfl, fun j p hj => ⟨[.int .u8 p], rfl, rfl, fun i u hu => ?_⟩⟩⟩
    have hjl : j < F.length := by
      rcases Nat.lt_or_ge j F.length with h' | h'
      · exact h'
      · rw [List.getElem?_eq_none h'] at hj; cases hj
    have hi : i = 0 := by
      rcases Nat.eq_zero_or_pos i with h' | h'
      · exact h'
      · rw [List.getElem?_eq_none (by simp; omega)] at hu; cases hu
    subst hi
    simp at hu
    subst hu
    have hadd : (⟨sb, 0, none⟩ : Addr).add (j * (Kd.int .u8).sz + 0) = ⟨sb, j, none⟩ := by
      rw [show j * (Kd.int .u8).sz + 0 = j from by show j * 1 + 0 = j; omega]
      unfold Addr.add
      split <;> simp_all
    rw [hadd, cell_blk hs, List.getElem?_toArray, List.getElem?_append_left (by rw [u8s_len]; exact hjl)]
    unfold u8s
    rw [List.getElem?_map, hj]
    rfl
  rintro e w2 ⟨v, rfl, hr, _, b⟩
  have HR := Aside0.mk hr
  have HB := Aside0.mk b
  clear hr b
  go_wp2_with fail
  go_ret
  exact ⟨_, rfl, HR.out, HB.out⟩
end Disk
end Go.Proofs.YtclneeamemofoaaGreat
namespace Go.Proofs.YtclneeamemofoaaGreat
set_option linter.unusedVariables false
set_option linter.unusedSimpArgs false
open Go.RowKit Go.Proofs.YtclneeamemofoaaGreatW.PrintWords Go.Proofs.YtclneeamemofoaaGreatW.PrintLast Go.Proofs.YtclneeamemofoaaGreatW.PrintMore
namespace Disk
open Go.Disk PDiskDoes PChain
def chunks (xs : List Int) (n : Nat) : List (List Int) := (List.range n).map (fun i : Nat => (xs.drop (i * 256)).take 256)
theorem chunks_len (xs : List Int) (n : Nat) : (chunks xs n).length = n := by simp [chunks]
theorem chunks_succ (xs : List Int) (n : Nat) : chunks xs (n + 1) = chunks xs n ++ [(xs.drop (n * 256)).take 256] := by
  unfold chunks
  rw [List.range_succ, List.map_append, List.map_cons, List.map_nil]
theorem chunks_mem {xs : List Int} {n : Nat} (h : xs.length = n * 256) {b : List Int} (hb : b ∈ chunks xs n) : b.length = 256 ∧ ∀ x ∈ b, x ∈ xs := by
  simp only [chunks, List.mem_map, List.mem_range] at hb
  obtain ⟨i, hi, rfl⟩ := hb
  refine ⟨by rw [List.length_take, List.length_drop]; omega, fun x hx => List.mem_of_mem_drop (List.mem_of_mem_take hx)⟩
def loadD (xs : List Int) (n : Nat) : Dk := ⟨chunks xs n, [], -1, false, 0, 0, 0⟩
theorem load_ok (xs : List Int) (n : Nat) (hl : xs.length = n * 256) (h : 16 ≤ n ∧ n ≤ 1024) (hb : ∀ x ∈ xs, 0 ≤ x ∧ x ≤ 255) : Ok (loadD xs n) :=
  ⟨by show 16 ≤ (chunks xs n).length ∧ (chunks xs n).length ≤ 1024; rw [chunks_len]; exact h, fun b hb' => (chunks_mem hl hb').1, fun b hb' x hx => hb x ((chunks_mem hl hb').2 x hx), fun p hp => by simp [loadD] at hp, by simp [loadD]⟩
end Disk
end Go.Proofs.YtclneeamemofoaaGreat
end
section
namespace Go.Proofs.YtclneeamemofoaaGreat
set_option linter.unusedVariables false
set_option linter.unusedSimpArgs false
open Go.RowKit Go.Proofs.YtclneeamemofoaaGreatW.PrintWords Go.Proofs.YtclneeamemofoaaGreatW.PrintLast Go.Proofs.YtclneeamemofoaaGreatW.PrintMore
namespace Disk
open Go.Disk PDiskDoes PChain
def a0 : Dk := blankD 16
def a1 : Dk := (writeD a0 3 (blockOf [7])).1
def a2 : Dk := crashD a1 [5]
def a3 : Dk := readD a2
def a4 : Dk := stopD a3 0
def a5 : Dk := deedD a4
theorem k0 : ready a0 3 = 0 := by kernel_rfl
theorem k1 : (writeD a0 3 (blockOf [7])).2 = 0 := by kernel_rfl
theorem k2 : ready a2 3 = 0 := by kernel_rfl
theorem k3 : a2.waits.length = 0 := by kernel_rfl
theorem k4 : ready a3 16 = 10 := by kernel_rfl
theorem k5 : ready a3 3 = 0 := by kernel_rfl
theorem k6 : ready a4 0 = 0 := by kernel_rfl
theorem k7 : a4.left = 0 := by kernel_rfl
theorem k8 : ready a5 0 = 9 := by kernel_rfl
theorem n0 : rd (nowD a2 3) 0 = 7 := by kernel_rfl
theorem n1 : rd (nowD a2 3) 64 = 0 := by kernel_rfl
theorem n2 : rd (nowD a2 3) 128 = 7 := by kernel_rfl
theorem FP.low {base db sb : Nat} {w w' : World} (f : FP base db sb w w') (hd : base ≤ db) (hs : base ≤ sb) (k : Nat) (hk : k < base) (hw : base ≤ w.heap.size) : w'.heap[k]? = w.heap[k]? :=
  f.block k (by omega) (by rintro (h | h) <;> omega) (fun _ _ _ _ h => by omega)
theorem FP.below {base db sb : Nat} {w w' : World} (f : FP base db sb w w') (hd : base ≤ db) (hs : base ≤ sb) (hw : base ≤ w.heap.size) : Below base w w' := ⟨f.os, f.tape, f.output, f.size, fun k hk => f.low hd hs k hk hw⟩
theorem row_at {w : World} {base : Nat} {ok : Nat → Prop} {A : Option Addr} {l c : Nat} {xs : List Int} (h : Kd.R (Kd.int .u8) 5 w base ok (.slice A l c) xs) : Kd.C (Kd.int .u8) w A xs.length xs := (Kd.R_reads' h).2.2
end Disk
end Go.Proofs.YtclneeamemofoaaGreat
namespace Go.Proofs.YtclneeamemofoaaGreat
set_option linter.unusedVariables false
set_option linter.unusedSimpArgs false
open Go.RowKit Go.Proofs.YtclneeamemofoaaGreatW.PrintWords Go.Proofs.YtclneeamemofoaaGreatW.PrintLast Go.Proofs.YtclneeamemofoaaGreatW.PrintMore
namespace Disk
open Go.Disk PDiskDoes PChain
def sec (k : Nat) (l : List Int) : List Int := (l.drop (64 * k)).take 64
theorem torn_get (on : Nat → Bool) (was bs : List Int) (hw : was.length = 256) (hb : bs.length = 256) : ∀ j, j ≤ 4 → ∀ i, i < 256 → (tornTo on was bs j)[i]? = if i / 64 < j ∧ on (i / 64) = true then bs[i]? else was[i]?
  | 0, _, i, hi => by simp [tornTo]
  | j + 1, hj, i, hi => by
    have ih := torn_get on was bs hw hb j (by omega)
    have hl := tornTo_len on was bs hw hb j (by omega)
    unfold tornTo
    by_cases ho : on j = true
    · rw [if_pos ho]
      by_cases h1 : i < 64 * j
      · rw [List.getElem?_append_left (by rw [List.length_take]; omega), List.getElem?_take_of_lt h1, ih i hi]
        have h2 : i / 64 < j := by omega
        simp [h2, show i / 64 < j + 1 by omega]
      · rw [List.getElem?_append_right (by rw [List.length_take]; omega), List.length_take, hl, Nat.min_eq_left (by omega)]
        by_cases h2 : i < 64 * j + 64
        · rw [List.getElem?_append_left (by rw [List.length_take, List.length_drop]; omega), List.getElem?_take_of_lt (by omega), List.getElem?_drop]
          have h3 : i / 64 = j := by omega
          rw [h3, show 64 * j + (i - 64 * j) = i by omega]
          simp [ho]
        · rw [List.getElem?_append_right (by rw [List.length_take, List.length_drop]; omega), List.length_take, List.length_drop, hb, Nat.min_eq_left (by omega), List.getElem?_drop, show 64 * j + 64 + (i - 64 * j - 64) = i by omega, ih i hi]
          have h3 : ¬ (i / 64 < j + 1) := by omega
          simp [h3, show ¬ (i / 64 < j) by omega]
    · rw [if_neg ho, ih i hi]
      by_cases h2 : i / 64 < j
      · simp [h2, show i / 64 < j + 1 by omega]
      · by_cases h3 : i / 64 = j
        · rw [h3]; simp [ho]
        · simp [h2, show ¬ (i / 64 < j + 1) by omega]
theorem sec_torn (on : Nat → Bool) (was bs : List Int) (hw : was.length = 256) (hb : bs.length = 256) (k : Nat) (hk : k < 4) : sec k (tornTo on was bs 4) = if on k = true then sec k bs else sec k was := by
  have h := torn_get on was bs hw hb 4 (Nat.le_refl _)
  have hl := tornTo_len on was bs hw hb 4 (Nat.le_refl _)
  apply List.ext_getElem?
  intro i
  by_cases hi : i < 64
  · have e : ∀ l : List Int, (sec k l)[i]? = l[64 * k + i]? := fun l => by unfold sec; rw [List.getElem?_take_of_lt hi, List.getElem?_drop]
    rw [e, h _ (by omega)]
    have h3 : (64 * k + i) / 64 = k := by omega
    rw [h3]
    by_cases ho : on k = true
    · simp [ho, hk, e]
    · simp [ho, e]
  · have e : ∀ l : List Int, (sec k l)[i]? = none := fun l => by unfold sec; exact List.getElem?_eq_none (by rw [List.length_take]; omega)
    rw [e]
    split <;> rw [e]
theorem sec_len (k : Nat) (hk : k < 4) (l : List Int) (h : l.length = 256) : (sec k l).length = 64 := by
  unfold sec
  rw [List.length_take, List.length_drop]
  omega
end Disk
end Go.Proofs.YtclneeamemofoaaGreat
end
section
namespace Go.Proofs.YtclneeamemofoaaGreat
set_option linter.unusedVariables false
set_option linter.unusedSimpArgs false
open Go.RowKit Go.Proofs.YtclneeamemofoaaGreatW.PrintWords Go.Proofs.YtclneeamemofoaaGreatW.PrintLast Go.Proofs.YtclneeamemofoaaGreatW.PrintMore
namespace Disk
open Go.Disk PDiskDoes PChain
abbrev kB : Kd (List Int) := Kd.slice 5 (Kd.int .u8)
structure RDx (w : World) (base sb xb : Nat) (D : Dk) (vs vw : Value) : Prop where
  ok : Ok D
  xbase : base ≤ xb
  slt : sb < w.heap.size
  sown : ∀ k, vs.ownBlock = some k → base ≤ k
  wown : ∀ k, vw.ownBlock = some k → base ≤ k
  cells : w.heap[xb]? = some (.cells #[vs, vw, .int .i64 D.left, .bool D.off, .int .i64 D.reads, .int .i64 D.writes, .int .i64 D.flushes] 79 (0, 0))
  safe : Kd.R kB 39 w 0 (fun k => k ≠ sb) vs D.safe
  waits : Kd.R kW 106 w 0 (fun k => k ≠ sb) vw D.waits
def RD (w : World) (base sb xb : Nat) (D : Dk) : Prop := ∃ vs vw, RDx w base sb xb D vs vw
theorem RDx.below {w w' : World} {base sb xb : Nat} {D : Dk} {vs vw : Value} (h : RDx w base sb xb D vs vw) (b : Below w.heap.size w w') : RDx w' base sb xb D vs vw :=
  ⟨h.ok, h.xbase, Nat.lt_of_lt_of_le h.slt b.size, h.sown, h.wown, (b.block xb (blk_lt h.cells)).trans h.cells, Kd.R_below h.safe b, Kd.R_below h.waits b⟩
theorem RD.below {w w' : World} {base sb xb : Nat} {D : Dk} (h : RD w base sb xb D) (b : Below w.heap.size w w') : RD w' base sb xb D := by
  obtain ⟨vs, vw, h⟩ := h
  exact ⟨vs, vw, h.below b⟩
theorem RDx.put {w : World} {base sb xb : Nat} {D D' : Dk} {vs vw : Value} (h : RDx w base sb xb D vs vw) (k : Nat) (v : Value) (hok : Ok D') (hs : D'.safe = D.safe) (hw : D'.waits = D.waits)
    (hc : (#[vs, vw, .int .i64 D.left, .bool D.off, .int .i64 D.reads, .int .i64 D.writes, .int .i64 D.flushes] : Array Value).setIfInBounds k v = #[vs, vw, .int .i64 D'.left, .bool D'.off, .int .i64 D'.reads, .int .i64 D'.writes, .int .i64 D'.flushes]) :
    RDx (w.setCell ⟨xb, k, none⟩ v) base sb xb D' vs vw := by
  refine ⟨hok, h.xbase, by simpa [World.setCell] using h.slt, h.sown, h.wown, ?_, by rw [hs]; exact Kd.R_set h.safe h.cells (by decide) k v, by rw [hw]; exact Kd.R_set h.waits h.cells (by decide) k v⟩
  rw [blk_set h.cells k v, hc]
theorem RDx.fp {w w' : World} {base base' db sb xb : Nat} {D : Dk} {vs vw : Value} {dc : Array Value} (h : RDx w base sb xb D vs vw) (hd : w.heap[db]? = some (.cells dc 58 (0, 0))) {sc : Array Value} (hs : w.heap[sb]? = some (.cells sc 5 (0, 0))) (f : FP base' db sb w w') : RDx w' base sb xb D vs vw := by
  have key : ∀ k, k < w.heap.size → k ≠ sb → (∃ q, (q = 39 ∨ q = 5 ∨ q = 106 ∨ q = 79) ∧ ∃ cells, w.heap[k]? = some (.cells cells q (0, 0))) → w'.heap[k]? = w.heap[k]? := by
    rintro k hk hne ⟨q, hq, cells, hc⟩
    refine f.block k hk ?_ (fun c t fz hc' => ?_)
    · rintro (rfl | rfl)
      · rw [hd] at hc
        cases hc
        rcases hq with h | h | h | h <;> exact absurd h (by decide)
      · exact hne rfl
    · rw [hc] at hc'
      cases hc'
      rintro ⟨_, rfl⟩
      rcases hq with h | h | h | h <;> exact absurd h (by decide)
  refine ⟨h.ok, h.xbase, Nat.lt_of_lt_of_le h.slt f.size, h.sown, h.wown, ?_, ?_, ?_⟩
  · refine (key xb (blk_lt h.cells) ?_ ⟨_, .inr (.inr (.inr rfl)), _, h.cells⟩).trans h.cells
    rintro rfl
    have := hs.symm.trans h.cells
    simp at this
  · refine Kd.R_mono (Kd.R_step (Kd.R_bound h.safe) (fun k hk hlt => ?_)) (fun _ hk => hk.1)
    obtain ⟨h1, _, _, q, hq, cells, hc⟩ := hk
    refine key k hlt h1 ⟨q, ?_, cells, hc⟩
    have hq' : q ∈ [39, 5] := hq
    simp at hq'
    rcases hq' with h | h
    · exact .inl h
    · exact .inr (.inl h)
  · refine Kd.R_mono (Kd.R_step (Kd.R_bound h.waits) (fun k hk hlt => ?_)) (fun _ hk => hk.1)
    obtain ⟨h1, _, _, q, hq, cells, hc⟩ := hk
    refine key k hlt h1 ⟨q, ?_, cells, hc⟩
    have hq' : q ∈ [106, 5] := hq
    simp at hq'
    rcases hq' with h | h
    · exact .inr (.inr (.inl h))
    · exact .inr (.inl h)
theorem PDx.fx {w w' : World} {base base' db sb xb cs : Nat} {D : Dk} {vw : Value} {sp : List Value} {xc : Array Value} (h : PDx w base db sb D vw cs sp) (hx : w.heap[xb]? = some (.cells xc 79 (0, 0))) (f : FX base' xb w w') : PDx w' base db sb D vw cs sp := by
  have key : ∀ k, k < w.heap.size → (∃ q, (q = 103 ∨ q = 5 ∨ q = 58) ∧ ∃ cells, w.heap[k]? = some (.cells cells q (0, 0))) → w'.heap[k]? = w.heap[k]? := by
    rintro k hk ⟨q, hq, cells, hc⟩
    refine f.block k hk ?_ (fun c t fz hc' => ?_)
    · rintro rfl
      rw [hx] at hc
      cases hc
      rcases hq with h | h | h <;> exact absurd h (by decide)
    · rw [hc] at hc'
      cases hc'
      rintro ⟨_, h | h⟩ <;> subst h <;> rcases hq with h | h | h <;> exact absurd h (by decide)
  refine ⟨h.ok, h.dbase, h.sbase, h.wown, ?_, ?_, ?_, h.room⟩
  · exact (key db (blk_lt h.cells) ⟨_, .inr (.inr rfl), _, h.cells⟩).trans h.cells
  · refine Kd.R_mono (Kd.R_step (Kd.R_bound h.waits) (fun k hk hlt => ?_)) (fun _ hk => hk.1)
    obtain ⟨h1, _, _, q, hq, cells, hc⟩ := hk
    refine key k hlt ⟨q, ?_, cells, hc⟩
    have hq' : q ∈ [103, 5] := hq
    simp at hq'
    rcases hq' with h | h
    · exact .inl h
    · exact .inr (.inl h)
  · exact (key sb (blk_lt h.safe) ⟨_, .inr (.inl rfl), _, h.safe⟩).trans h.safe
set_option maxRecDepth 100000 in
theorem there_any {w : World} {base sb xb : Nat} {D : Dk} (n : Int) (h : RD w base sb xb D) :
    Calls Tryz.prog 60 #[.pointer (some ⟨xb, 0, none⟩), .int .i64 n] w fun e w' => e = .returned (.bool (decide (0 ≤ n ∧ n < D.safe.length))) ∧ w' = w := by
  obtain ⟨vs, vw, h⟩ := h
  obtain ⟨A, c, rfl⟩ := Kd.R_slice h.safe
  have c0 : w.cell? ⟨xb, 0, none⟩ = some (.slice A D.safe.length c) := cell_blk h.cells
  clear h
  by_cases h0 : 0 ≤ n
  · by_cases h1 : n < D.safe.length
    · rw [decide_eq_true (show 0 ≤ n ∧ n < D.safe.length from ⟨h0, h1⟩)]
      go_enter Tryz.func60, Tryz.ntmps60
      go_wp2_with fail
      go_ret
      exact ⟨rfl, rfl⟩
    · rw [decide_eq_false (show ¬ (0 ≤ n ∧ n < D.safe.length) from fun h => h1 h.2)]
      go_enter Tryz.func60, Tryz.ntmps60
      go_wp2_with fail
      go_ret
      exact ⟨rfl, rfl⟩
  · rw [decide_eq_false (show ¬ (0 ≤ n ∧ n < D.safe.length) from fun h => h0 h.1)]
    go_enter Tryz.func60, Tryz.ntmps60
    go_wp2_with fail
    go_ret
    exact ⟨rfl, rfl⟩
set_option maxRecDepth 100000 in
theorem xstop_any {w : World} {base sb xb : Nat} {D : Dk} (n : Int) (h : RD w base sb xb D) (hn : n ≤ 9223372036854775807) :
    Calls Tryz.prog 34 #[.pointer (some ⟨xb, 0, none⟩), .int .i64 n] w fun e w' => (e = .returned (.int .i64 (if n < 0 then 1 else 0)) ∧ RD w' base sb xb (if n < 0 then D else stopD D n) ∧ FX base xb w w') := by
  have HP := Aside0.mk h
  obtain ⟨vs, vw, h⟩ := h
  have c2 : w.cell? ⟨xb, 2, none⟩ = some (.int .i64 D.left) := cell_blk h.cells
  have f2 : w.frozen? ⟨xb, 2, none⟩ = false := frozen_blk h.cells
  have HX := Aside0.mk h
  clear h
  by_cases h0 : n < 0
  · rw [if_pos h0, if_pos h0]
    go_enter Tryz.func34, Tryz.ntmps34
    go_wp2_with fail
    go_ret
    exact ⟨rfl, HP.out, .refl _ _ _⟩
  · rw [if_neg h0, if_neg h0]
    go_enter Tryz.func34, Tryz.ntmps34
    go_wp2_with fail
    go_ret
    have ho := HX.out.ok
    exact ⟨rfl, ⟨vs, vw, HX.out.put 2 (.int .i64 n) (D' := stopD D n) ⟨ho.few, ho.len, ho.byte, ho.at_, by show -1 ≤ n ∧ n ≤ _; omega⟩ rfl rfl rfl⟩, .set _ _ _ _ rfl⟩
set_option maxRecDepth 100000 in
theorem xdeed_any {w : World} {base sb xb : Nat} {D : Dk} (h : RD w base sb xb D) :
    Calls Tryz.prog 61 #[.pointer (some ⟨xb, 0, none⟩)] w fun e w' => e = .returned (.bool (decide (D.left ≠ 0))) ∧ RD w' base sb xb (deedD D) ∧ FX base xb w w' := by
  obtain ⟨vs, vw, h⟩ := h
  have c2 : w.cell? ⟨xb, 2, none⟩ = some (.int .i64 D.left) := cell_blk h.cells
  have f2 : w.frozen? ⟨xb, 2, none⟩ = false := frozen_blk h.cells
  have c3 : w.cell? ⟨xb, 3, none⟩ = some (.bool D.off) := cell_blk h.cells
  have f3 : w.frozen? ⟨xb, 3, none⟩ = false := frozen_blk h.cells
  have HX := Aside0.mk h
  have ho := HX.out.ok
  have hl := ho.left
  have HOK := Aside0.mk ho
  clear h ho
  unfold deedD
  obtain ⟨L, hL⟩ : ∃ L, L = D.left := ⟨_, rfl⟩
  by_cases h0 : D.left = 0
  · rw [if_pos h0, decide_eq_false (fun h => h h0)]
    rw [h0] at c2
    clear hL
    go_enter Tryz.func61, Tryz.ntmps61
    go_wp2_with fail
    go_ret
    have ho := HOK.out
    exact ⟨rfl, ⟨vs, vw, HX.out.put 3 (.bool true) (D' := { D with off := true }) ⟨ho.few, ho.len, ho.byte, ho.at_, ho.left⟩ rfl rfl rfl⟩, .set _ _ _ _ rfl⟩
  · rw [if_neg h0, decide_eq_true h0]
    have ho := HOK.out
    by_cases h1 : 0 < D.left
    · have hm : max (D.left - 1) (-1) = D.left - 1 := by omega
      rw [hm]
      rw [← hL] at c2 hl h0 h1
      have HL := Aside0.mk hL
      clear hL hm ho
      go_enter Tryz.func61, Tryz.ntmps61
      go_wp2_with fail
      go_ret
      have ho := HOK.out
      have hL := HL.out
      exact ⟨rfl, ⟨vs, vw, HX.out.put 2 (.int .i64 (L - 1)) (D' := { D with left := D.left - 1 }) ⟨ho.few, ho.len, ho.byte, ho.at_, ⟨by show -1 ≤ D.left - 1; omega, by show D.left - 1 ≤ 9223372036854775807; omega⟩⟩ rfl rfl (by rw [hL]; rfl)⟩, .set _ _ _ _ rfl⟩
    · have hm : max (D.left - 1) (-1) = D.left := by omega
      have hl1 : D.left = -1 := by omega
      rw [hm]
      rw [hl1] at c2
      clear hL hm ho h0 hl h1
      go_enter Tryz.func61, Tryz.ntmps61
      go_wp2_with fail
      go_ret
      exact ⟨rfl, ⟨vs, vw, HX.out⟩, .refl _ _ _⟩
theorem put_row {w : World} {sb g n cap : Nat} {xs : List (List Int)} (h : Kd.R kB 39 w 0 (fun k => k ≠ sb) (.slice (some ⟨g, 0, none⟩) n cap) xs) (i : Nat) (hi : i < n) (v : Value) (bs : List Int) (hv : Kd.R (Kd.int .u8) 5 w 0 (fun k => k ≠ sb ∧ k ≠ g) v bs) :
    Kd.R kB 39 (w.setCell ⟨g, i, none⟩ v) 0 (fun k => k ≠ sb) (.slice (some ⟨g, 0, none⟩) n cap) (xs.set i bs) := by
  obtain ⟨c, hcl, hM, hcc, _⟩ := Kd.R_elem h [] (i : Int) (by omega) (by omega)
  have hs : kB.sz = 1 := rfl
  have := (Kd.R_seg h (i : Int) (by omega) (by omega) (seg := [v]) (j := 0) hcl hcc (by rw [hs]; simp) (x' := bs) (okp := fun k => k ≠ sb ∧ k ≠ g) ⟨v, by
    rw [hs] at hcl
    match c, hcl with
    | [u], _ => rfl, hv⟩ (fun k hk => hk)).1
  rw [hs, Int.toNat_natCast, Nat.mul_one, Nat.add_zero] at this
  exact this
end Disk
end Go.Proofs.YtclneeamemofoaaGreat
namespace Go.Proofs.YtclneeamemofoaaGreat
set_option linter.unusedVariables false
set_option linter.unusedSimpArgs false
open Go.RowKit Go.Proofs.YtclneeamemofoaaGreatW.PrintWords Go.Proofs.YtclneeamemofoaaGreatW.PrintLast Go.Proofs.YtclneeamemofoaaGreatW.PrintMore
namespace Disk
open Go.Disk PDiskDoes PChain
theorem S_at {w : World} {sb : Nat} {vs : Value} {ss : List (List Int)} (h : Kd.R kB 39 w 0 (fun k => k ≠ sb) vs ss) (n : Nat) (hn : n < ss.length) :
    ∃ g cap A c, vs = .slice (some ⟨g, 0, none⟩) ss.length cap ∧ w.cell? ⟨g, n, none⟩ = some (.slice A ss[n].length c) ∧ Kd.R (Kd.int .u8) 5 w 0 (fun k => k ≠ sb ∧ k ≠ g) (.slice A ss[n].length c) ss[n] ∧ g ≠ sb ∧ g < w.heap.size ∧ ss.length ≤ cap ∧ w.frozen? ⟨g, n, none⟩ = false := by
  obtain ⟨g, cap, rfl, _⟩ := Kd.R_form h (by omega)
  obtain ⟨c, hcl, hM, hcc, hfr⟩ := Kd.R_elem h [] (n : Int) (by omega) (by omega)
  obtain ⟨v, rfl, hR⟩ := hM
  have e : ss.getD (n : Int).toNat [] = ss[n] := by rw [Int.toNat_natCast]; simp [List.getD_eq_getElem?_getD, hn]
  rw [e] at hR
  obtain ⟨A, c, rfl⟩ := Kd.R_slice hR
  have hs : kB.sz = 1 := rfl
  have h0 := hcc 0 _ rfl
  have h1 := hfr 0
  rw [hs, Int.toNat_natCast, Nat.mul_one, Nat.add_zero] at h0 h1
  exact ⟨g, cap, A, c, rfl, h0, hR, h.1 g (by simp [Value.ownBlock]), Kd.R_lt h g (by simp [Value.ownBlock]), (Kd.R_reads' h).2.1, h1⟩
theorem u8_at {w : World} {base : Nat} {ok : Nat → Prop} {A : Option Addr} {l c : Nat} {bs : List Int} (h : Kd.R (Kd.int .u8) 5 w base ok (.slice A l c) bs) (hl : bs.length = 256) : ∃ a, A = some a ∧ l = 256 ∧ 256 ≤ c ∧ Kd.C (Kd.int .u8) w (some a) 256 bs := by
  obtain ⟨h1, h2, h3⟩ := Kd.R_reads' h
  obtain ⟨a, rfl, _⟩ := Kd.at_int h3 0 (by omega) (by omega)
  refine ⟨a, rfl, by omega, by omega, ?_⟩
  rw [hl] at h3
  exact h3
set_option maxHeartbeats 8000000 in
set_option maxRecDepth 100000 in
theorem xnow_any {w : World} {base sb xb : Nat} {D : Dk} (h : RD w base sb xb D) (N : Int) (hN : 0 ≤ N ∧ N < D.safe.length) (hfew : D.waits.length ≤ 1000000) :
    Calls Tryz.prog 63 #[.pointer (some ⟨xb, 0, none⟩), .int .i64 N] w fun e W' => ∃ a c, e = .returned (.slice (some a) 256 c) ∧ 256 ≤ c ∧ Kd.C (Kd.int .u8) W' (some a) 256 (nowD D N) ∧ Below w.heap.size w W' := by
  obtain ⟨vs, vw, hx⟩ := h
  obtain ⟨AW, cW, rfl, hcW, _⟩ := Kd.R_reads hx.waits
  obtain ⟨n, rfl⟩ : ∃ n : Nat, N = n := ⟨N.toNat, by omega⟩
  have hn : n < D.safe.length := by omega
  have HX := Aside0.mk hx
  have c1 : w.cell? ⟨xb, 1, none⟩ = some (.slice AW D.waits.length cW) := cell_blk hx.cells
  clear hx hN
  go_enter Tryz.func63, Tryz.ntmps63
  go_wp2_with fail
  go_loopg [5] D.waits.length (fun g v5 wr => ∃ (i : Int), v5 = .int .i64 i ∧ -1 ≤ i ∧ i < D.waits.length ∧ Aside0 (i + 1 = g) ∧ Aside0 (∀ j (hj : j < D.waits.length), i < j → D.waits[j].1 ≠ n) ∧ Aside0 (Below w.heap.size w wr))
  case atStart => exact ⟨(D.waits.length : Int) - 1, by go_num, by omega, by omega, ⟨by omega⟩, ⟨fun j hj hlt => by omega⟩, ⟨Below.refl _ _⟩⟩
  case round =>
    obtain ⟨i, rfl, hi1, hi2, HI, HA, HB⟩ := hrel
    have HXR := Aside0.mk (HX.out.below HB.out)
    by_cases hi : 0 ≤ i
    · obtain ⟨k, rfl⟩ : ∃ k : Nat, i = k := ⟨i.toNat, by omega⟩
      have hk : k < D.waits.length := by omega
      obtain ⟨g, cap, vb, hvw, hw0, hw1, hwr, hgs, hgl, _⟩ := W_at HXR.out.waits k hk
      cases hvw
      have c1 : wr.cell? ⟨xb, 1, none⟩ = some (.slice (some ⟨g, 0, none⟩) D.waits.length cW) := cell_blk HXR.out.cells
      obtain ⟨M, hM⟩ : ∃ M, M = D.waits[k].1 := ⟨_, rfl⟩
      rw [← hM] at hw0
      have HM := Aside0.mk hM
      clear hM
      by_cases hMn : M = (n : Int)
      · subst hMn
        have HWR := Aside0.mk hwr
        clear hwr
        go_wp2_with fail
        go_ret
        have hlen := (HX.out.ok.at_ _ (List.getElem_mem hk)).2.2.1
        obtain ⟨A, c, rfl⟩ := Kd.R_slice HWR.out
        obtain ⟨a, rfl, e1, hc, hC⟩ := u8_at HWR.out hlen
        refine ⟨a, c, by rw [hlen]; rfl, hc, ?_, HB.out⟩
        have : nowD D (n : Int) = D.waits[k].2 := by
          unfold nowD
          rw [lastW_hit D.waits n k hk HM.out.symm (fun j hj hlt => HA.out j hj (by omega))]
          rfl
        rw [this]
        exact hC
      · clear hwr
        go_wp2_with fail
        go_roundg (gk - 1)
        case measure => have := HI.out; omega
        case rel => exact ⟨(k : Int) - 1, by go_num, by omega, by omega, ⟨by have := HI.out; omega⟩, ⟨fun j hj hlt => by
          by_cases hjk : j = k
          · subst hjk; rw [← HM.out]; exact hMn
          · exact HA.out j hj (by omega)⟩, HB⟩
    · have hi0 : i = -1 := by omega
      subst hi0
      obtain ⟨g, cap, A, c, rfl, hcell, hR, hgs, hgl, hcap, _⟩ := S_at HXR.out.safe n hn
      have c0 : wr.cell? ⟨xb, 0, none⟩ = some (.slice (some ⟨g, 0, none⟩) D.safe.length cap) := cell_blk HXR.out.cells
      have hlen := HX.out.ok.len _ (List.getElem_mem hn)
      obtain ⟨a, rfl, e1, hc, hC⟩ := u8_at hR hlen
      rw [hlen] at hcell
      have HC := Aside0.mk hC
      clear hC hR hlen e1
      go_wp2_with fail
      go_ret
      refine ⟨a, c, rfl, hc, ?_, HB.out⟩
      have : nowD D (n : Int) = D.safe[n] := by
        unfold nowD
        rw [lastW_none D.waits n (fun j hj => HA.out j hj (by omega))]
        simp [hn]
      rw [this]
      exact HC.out
theorem ready_cases (D : Dk) (N : Int) : (D.off = true ∧ ready D N = 9) ∨ (D.off = false ∧ ¬ (0 ≤ N ∧ N < D.safe.length) ∧ ready D N = 10) ∨ (D.off = false ∧ (0 ≤ N ∧ N < D.safe.length) ∧ ready D N = 0) := by
  unfold ready
  cases hoff : D.off with
  | true => exact .inl ⟨rfl, by simp⟩
  | false =>
    by_cases hN : 0 ≤ N ∧ N < D.safe.length
    · exact .inr (.inr ⟨rfl, hN, by rw [if_neg (by simp), if_neg (by omega)]⟩)
    · exact .inr (.inl ⟨rfl, hN, by rw [if_neg (by simp), if_pos (by omega)]⟩)
theorem ready_in {D : Dk} {N : Int} (h : ready D N = 0) : D.off = false ∧ 0 ≤ N ∧ N < D.safe.length := by
  rcases ready_cases D N with ⟨_, h2⟩ | ⟨_, _, h2⟩ | ⟨h1, h2, _⟩
  · omega
  · omega
  · exact ⟨h1, h2⟩
set_option maxHeartbeats 8000000 in
set_option maxRecDepth 100000 in
theorem xread_no {w : World} {base sb xb : Nat} {D : Dk} (h : RD w base sb xb D) (N : Int) (hr : ready D N ≠ 0) :
    Calls Tryz.prog 29 #[.pointer (some ⟨xb, 0, none⟩), .int .i64 N] w fun e w' => e = .returned (.tuple #[.slice none 0 0, .int .i64 (ready D N)]) ∧ w' = w := by
  have HP := Aside0.mk h
  obtain ⟨vs, vw, hx⟩ := h
  have c3 : w.cell? ⟨xb, 3, none⟩ = some (.bool D.off) := cell_blk hx.cells
  clear hx
  rcases ready_cases D N with ⟨h1, h2⟩ | ⟨h1, h2, h3⟩ | ⟨h1, h2, h3⟩
  · rw [h1] at c3
    rw [h2]
    clear h1 h2 hr
    go_enter Tryz.func29, Tryz.ntmps29
    go_wp2_with fail
    go_ret2
    exact ⟨rfl, rfl⟩
  · rw [h1] at c3
    rw [h3]
    have ht := there_any N HP.out
    rw [decide_eq_false h2] at ht
    clear h1 h2 h3 hr
    go_enter Tryz.func29, Tryz.ntmps29
    go_wp2_with fail
    refine ht.mono ?_
    rintro e w1 ⟨rfl, rfl⟩
    clear ht
    go_wp2_with fail
    go_ret2
    exact ⟨rfl, rfl⟩
  · exact absurd h3 hr
set_option maxHeartbeats 8000000 in
set_option maxRecDepth 100000 in
theorem xread_yes {w : World} {base sb xb : Nat} {D : Dk} (h : RD w base sb xb D) (N : Int) (hr : ready D N = 0) (hfew : D.waits.length ≤ 1000000) :
    Calls Tryz.prog 29 #[.pointer (some ⟨xb, 0, none⟩), .int .i64 N] w fun e w' => ∃ v, e = .returned (.tuple #[v, .int .i64 0]) ∧ Kd.R (Kd.int .u8) 5 w' w.heap.size (fun _ => True) v (nowD D N) ∧ RD w' base sb xb (readD D) ∧ FX base xb w w' := by
  have HP := Aside0.mk h
  obtain ⟨vs, vw, hx⟩ := h
  have HX := Aside0.mk hx
  obtain ⟨hoff, hN⟩ := ready_in hr
  have c3 : w.cell? ⟨xb, 3, none⟩ = some (.bool false) := by rw [← hoff]; exact cell_blk hx.cells
  clear hx hoff hr
  have ht := there_any N HP.out
  rw [decide_eq_true hN] at ht
  have HNL := Aside0.mk (now_len HX.out.ok N hN)
  have c4 : w.cell? ⟨xb, 4, none⟩ = some (.int .i64 D.reads) := cell_blk HX.out.cells
  have f4 : w.frozen? ⟨xb, 4, none⟩ = false := frozen_blk HX.out.cells
  have HNN := Aside0.mk hN
  clear hN
  go_enter Tryz.func29, Tryz.ntmps29
  go_wp2_with fail
  refine ht.mono ?_
  rintro e w1 ⟨rfl, rfl⟩
  clear ht
  go_wp2_with fail
  obtain ⟨w2, hw2⟩ : ∃ w2, w2 = w1.setCell ⟨xb, 4, none⟩ (.int .i64 (wrap64 (D.reads + 1))) := ⟨_, rfl⟩
  rw [← hw2]
  have HP2 := Aside0.mk (show RD w2 base sb xb (readD D) from ⟨vs, vw, by rw [hw2]; exact HX.out.put 4 _ (D' := readD D) (cnt_ok HX.out.ok rfl rfl rfl) rfl rfl rfl⟩)
  have HF2 := Aside0.mk (show FX base xb w1 w2 by rw [hw2]; exact .set _ _ _ _ rfl)
  have hsz : w2.heap.size = w1.heap.size := by rw [hw2]; simp [World.setCell]
  clear hw2 c4 f4 c3
  obtain ⟨w3, hw3⟩ : ∃ w3, w3 = w2.alloc (.cells #[] 5) := ⟨_, rfl⟩
  have HB3 := Aside0.mk (show Below w2.heap.size w2 w3 by rw [hw3]; exact (Below.refl _ _).alloc (Nat.le_refl _) _)
  have HO3 := Aside0.mk (show Kd.R (Kd.int .u8) 5 w3 w1.heap.size (fun _ => True) (.slice (some ⟨w2.heap.size, 0, none⟩) 0 0) [] by rw [hw3]; exact ⟨fun _ _ => trivial, OwnRow.lit w2 w1.heap.size (Reps.none _ _) HF2.out.size (by simp)⟩)
  try rw [← hw3]
  clear hw3
  refine (xnow_any (HP2.out.below HB3.out) N HNN.out hfew).mono ?_
  rintro e w4 ⟨a, c, rfl, hc, hC, b⟩
  have HC4 := Aside0.mk (show Kd.C (Kd.int .u8) w4 (some a) 256 (nowD D N) from hC)
  have HO4 := Aside0.mk (Kd.R_below HO3.out b)
  have HB4 := Aside0.mk (HB3.out.trans (b.mono HB3.out.size))
  clear hC b
  go_wp2_with ((with_reducible refine gate_builtin (b := .append) (xs := #[.tmp 25, .tmp 28]) rfl ?_); at_builtin; refine Hid.out ?_)
  refine Lib.hid ?_
  have hs2 := HF2.out.size
  rw [hsz] at HO4
  refine Kd.R_append_rows (Kd.int .u8) (Rr := (Kd.int .u8).K w4) (w0 := w4) w1.heap.size rfl (.tmp 25) (.tmp 28) 39 5 (.int .u8 0) 1 rfl Tryz.underlying39 infoU8 rfl (by decide) (by omega) (.slice (some ⟨w1.heap.size, 0, none⟩) 0 0) [] (nowD D N) (some a) 256 c (fun _ => True) (fun _ => False) rfl rfl HO4.out HC4.out (fun x cs h => h) (fun _ hk => hk.elim) (fun _ _ => trivial) (Below.refl _ _) (Nat.le_trans hs2 HB4.out.size) (by simp) ?_
  intro v5 w5 ho _ hg _
  have HO5 := Aside0.mk ho
  have HB5 := Aside0.mk (show Below w2.heap.size w2 w5 from HB4.out.trans ⟨hg.os, hg.tape, hg.output, hg.size, fun k hk => hg.block k (Nat.lt_of_lt_of_le hk HB4.out.size) (by simp [Value.ownBlock]; omega)⟩)
  clear ho hg
  go_wp2_with fail
  go_ret2
  exact ⟨_, rfl, by simpa using HO5.out, HP2.out.below HB5.out, HF2.out.trans (.of_below HB5.out)⟩
end Disk
end Go.Proofs.YtclneeamemofoaaGreat
namespace Go.Proofs.YtclneeamemofoaaGreat
set_option linter.unusedVariables false
set_option linter.unusedSimpArgs false
open Go.RowKit Go.Proofs.YtclneeamemofoaaGreatW.PrintWords Go.Proofs.YtclneeamemofoaaGreatW.PrintLast Go.Proofs.YtclneeamemofoaaGreatW.PrintMore
namespace Disk
open Go.Disk PDiskDoes PChain
theorem infoX : (Tryz.prog.info? 106).map (fun i => (i.zero, i.size, i.bytes)) = some (some (.agg #[.int .i64 0, .slice none 0 0]), 2, 32) := by kernel_rfl
set_option maxHeartbeats 8000000 in
set_option maxRecDepth 100000 in
theorem xwrite_no {w : World} {base sb xb : Nat} {D : Dk} (h : RD w base sb xb D) (N : Int) (hr : ready D N ≠ 0) (A : Option Addr) (l c : Nat) :
    Calls Tryz.prog 27 #[.pointer (some ⟨xb, 0, none⟩), .int .i64 N, .slice A l c] w fun e w' => e = .returned (.int .i64 (ready D N)) ∧ w' = w := by
  have HP := Aside0.mk h
  obtain ⟨vs, vw, hx⟩ := h
  have c3 : w.cell? ⟨xb, 3, none⟩ = some (.bool D.off) := cell_blk hx.cells
  clear hx
  rcases ready_cases D N with ⟨h1, h2⟩ | ⟨h1, h2, h3⟩ | ⟨h1, h2, h3⟩
  · rw [h1] at c3
    rw [h2]
    clear h1 h2 hr
    go_enter Tryz.func27, Tryz.ntmps27
    go_wp2_with fail
    go_ret
    exact ⟨rfl, rfl⟩
  · rw [h1] at c3
    rw [h3]
    have ht := there_any N HP.out
    rw [decide_eq_false h2] at ht
    clear h1 h2 h3 hr
    go_enter Tryz.func27, Tryz.ntmps27
    go_wp2_with fail
    refine ht.mono ?_
    rintro e w1 ⟨rfl, rfl⟩
    clear ht
    go_wp2_with fail
    go_ret
    exact ⟨rfl, rfl⟩
  · exact absurd h3 hr
set_option maxHeartbeats 8000000 in
set_option maxRecDepth 100000 in
theorem xwrite_size {w : World} {base sb xb : Nat} {D : Dk} (h : RD w base sb xb D) (N : Int) (hr : ready D N = 0) (A : Option Addr) (l c : Nat) (hl : l ≠ 256) :
    Calls Tryz.prog 27 #[.pointer (some ⟨xb, 0, none⟩), .int .i64 N, .slice A l c] w fun e w' => e = .returned (.int .i64 11) ∧ w' = w := by
  have HP := Aside0.mk h
  obtain ⟨vs, vw, hx⟩ := h
  obtain ⟨hoff, hN⟩ := ready_in hr
  have c3 : w.cell? ⟨xb, 3, none⟩ = some (.bool false) := by rw [← hoff]; exact cell_blk hx.cells
  have hb : ((l : Int) != 256) = true := by simp; omega
  have ht := there_any N HP.out
  rw [decide_eq_true hN] at ht
  clear hx hoff hr hN
  go_enter Tryz.func27, Tryz.ntmps27
  go_wp2_with fail
  refine ht.mono ?_
  rintro e w1 ⟨rfl, rfl⟩
  clear ht
  go_wp2_with fail
  go_ret
  exact ⟨rfl, rfl⟩
set_option maxHeartbeats 8000000 in
set_option maxRecDepth 100000 in
theorem xwrite_yes {w : World} {base sb xb : Nat} {D : Dk} (h : RD w base sb xb D) (N : Int) (hr : ready D N = 0) (a : Addr) (c : Nat) (bs : List Int) (hl : bs.length = 256) (hby : ∀ x ∈ bs, 0 ≤ x ∧ x ≤ 255) (hC : ∀ x, Below w.heap.size w x → Kd.C (Kd.int .u8) x (some a) bs.length bs) (hfew : D.waits.length ≤ 1000000) :
    Calls Tryz.prog 27 #[.pointer (some ⟨xb, 0, none⟩), .int .i64 N, .slice (some a) bs.length c] w fun e w' => e = .returned (.int .i64 (writeD D N bs).2) ∧ RD w' base sb xb (writeD D N bs).1 ∧ FX base xb w w' := by
  obtain ⟨hoff, hN⟩ := ready_in hr
  have HP := Aside0.mk h
  have HR := Aside0.mk hr
  have HC := Aside0.mk hC
  have HBY := Aside0.mk hby
  obtain ⟨vs, vw, hx⟩ := h
  obtain ⟨AW, cW, rfl⟩ := Kd.R_slice hx.waits
  have HX := Aside0.mk hx
  have hdl : xb < w.heap.size := blk_lt hx.cells
  have c3 : w.cell? ⟨xb, 3, none⟩ = some (.bool false) := by rw [← hoff]; exact cell_blk hx.cells
  have ht := there_any N HP.out
  rw [decide_eq_true hN] at ht
  clear hx hr hC hby hoff
  rw [hl]
  go_enter Tryz.func27, Tryz.ntmps27
  go_wp2_with fail
  refine ht.mono ?_
  rintro e w1 ⟨rfl, rfl⟩
  clear ht c3
  go_wp2_with fail
  have hm1 : ∀ m : Go.Reg.In (Below w1.heap.size w1), m.w.cell? ⟨xb, 1, none⟩ = some (.slice AW D.waits.length cW) := fun m => by rw [m.h.cell hdl]; exact cell_blk HX.out.cells
  refine Go.Reg.region (Below w1.heap.size w1) [.p, .s, .s, .s, .s, .s, .w, .s, .w, .s, .w, .x, .p, .p, .x] (by kernel_rfl) (by kernel_rfl) (below_drew1 (Below.refl _ _)) (fun ne => ?_)
  refine Go.Reg.lex_qp 1 _ _ _ _ _ (by rfl) ?_; simp only [List.take_succ_cons, List.take_zero, List.drop_succ_cons, List.drop_zero]; (repeat (go_big_quiet_step (rfl))); refine wpQuiet_nil ?_
  refine Go.Reg.lex_q 5 _ _ _ _ (by rfl) ?_; simp only [List.take_succ_cons, List.take_zero, List.drop_succ_cons, List.drop_zero]; (repeat (go_big_quiet_step (rfl))); refine wpQuiet_nil ?_
  refine Go.Reg.step_w (fun K hK => ?_)
  go_wp2_with fail
  obtain ⟨w2, hw2⟩ : ∃ w2, w2 = (w1.alloc (.cells #[] 5)).drew := ⟨_, rfl⟩
  have HB2 := Aside0.mk (show Below w1.heap.size w1 w2 by rw [hw2]; exact below_drew1 ((Below.refl _ _).alloc (Nat.le_refl _) _))
  have HO2 := Aside0.mk (show Kd.R (Kd.int .u8) 5 w2 w1.heap.size (fun _ => True) (.slice (some ⟨w1.heap.size, 0, none⟩) 0 0) [] by rw [hw2]; exact Kd.R_drew ⟨fun _ _ => trivial, OwnRow.lit w1 w1.heap.size (Reps.none _ _) (Nat.le_refl _) (by simp)⟩)
  rw [← hw2]
  clear hw2
  refine hK.out _ _ HB2.out ?_
  clear hK K
  try simp only [Act.put, List.setIfInBounds_toArray, List.set_cons_succ, List.set_cons_zero]
  refine Go.Reg.lex_q 1 _ _ _ _ (by rfl) ?_; simp only [List.take_succ_cons, List.take_zero, List.drop_succ_cons, List.drop_zero]; (repeat (go_big_quiet_step (rfl))); refine wpQuiet_nil ?_
  refine Go.Reg.step_w (fun K hK => ?_)
  refine Kd.R_append_rows (Kd.int .u8) (Rr := (Kd.int .u8).K w2) (w0 := w1) w1.heap.size rfl (.tmp 27) (.tmp 28) 39 5 (.int .u8 0) 1 rfl Tryz.underlying39 infoU8 rfl (by decide) (by omega) (.slice (some ⟨w1.heap.size, 0, none⟩) 0 0) [] bs (some a) 256 c (fun _ => True) (fun _ => False) rfl rfl HO2.out (by have := HC.out _ HB2.out; rw [hl] at this; exact this) (fun x cs h => h) (fun _ hk => hk.elim) (fun _ _ => trivial) HB2.out HB2.out.size (by simp) ?_
  intro vb w3 hrb hb3 _ _
  rw [List.nil_append] at hrb
  obtain ⟨AB, cB, rfl⟩ := Kd.R_slice hrb
  have HRB := Aside0.mk hrb
  have HB3 := Aside0.mk hb3
  rw [hl]
  clear hrb hb3
  refine hK.out _ _ HB3.out ?_
  clear hK K
  try simp only [Act.put, List.setIfInBounds_toArray, List.set_cons_succ, List.set_cons_zero]
  refine Go.Reg.lex_q 1 _ _ _ _ (by rfl) ?_; simp only [List.take_succ_cons, List.take_zero, List.drop_succ_cons, List.drop_zero]; (repeat (go_big_quiet_step (rfl))); refine wpQuiet_nil ?_
  refine Go.Reg.step_w (fun K hK => ?_)
  go_wp2_with fail
  refine hK.out _ _ (HB3.out.alloc HB3.out.size _) ?_
  clear hK K
  refine Go.Reg.step_x (by rfl) (fun K hK => ?_)
  have hs3 : w1.heap.size ≤ w3.heap.size := HB3.out.size
  have hsl : sb < w1.heap.size := HX.out.slt
  have hdb := HX.out.xbase
  have HOW := Aside0.mk (Kd.R_lt HX.out.waits)
  have HX3 := Aside0.mk (HX.out.below HB3.out)
  refine Kd.R_append kW (w0 := w3) (W := w3) 0 rfl (.tmp 25) (.tmp 31) 75 106 (.agg #[.int .i64 0, .slice none 0 0]) 32 rfl Tryz.underlying75 infoX rfl (by decide) (by omega) (.slice AW D.waits.length cW) D.waits (N, bs) [.int .i64 N, .slice AB 256 cB] (fun k => k ≠ sb) (fun k => w1.heap.size ≤ k) rfl rfl ?aP ?aK ?aF ?aO (Below.refl _ _) ?aB ?aL ?_
  case aP => exact ⟨[.int .i64 N], [.slice AB 256 cB], rfl, rfl, _, rfl, by
    have h1 := HRB.out
    rw [hl] at h1
    exact Kd.R_mono (Kd.R_lower (Kd.R_bound h1) (Nat.zero_le _)) (fun k hk => hk.2.1)⟩
  case aK => exact fun k hk => ⟨by omega, fun e => by have := HOW.out k e.symm; omega⟩
  case aF => exact fun k hk => by omega
  case aO => exact HX3.out.waits
  case aB => omega
  case aL => omega
  intro v4 w4 ho4 _ hg4 hat4
  have HWO := Aside0.mk (show ∀ k, v4.ownBlock = some k → base ≤ k from fun k hk => by
    rcases hat4 with h | ⟨b, h1, h2⟩
    · exact HX.out.wown k (h ▸ hk)
    · rw [h1] at hk; cases hk; have := HX.out.xbase; omega)
  obtain ⟨A4, c4, rfl⟩ := Kd.R_slice ho4
  have hlen1 : (D.waits ++ [(N, bs)]).length = D.waits.length + 1 := by simp
  rw [hlen1] at ho4 HWO
  rw [hlen1]
  clear hlen1
  have HO4 := Aside0.mk ho4
  have hned : some xb ≠ (Value.slice AW D.waits.length cW).ownBlock := Kd.R_ne HX3.out.waits HX3.out.cells (by decide)
  have k4 := (hg4.block xb (by omega) hned).trans HX3.out.cells
  have HK4 := Aside0.mk k4
  have HSF := Aside0.mk (show Kd.R kB 39 w4 0 (fun k => k ≠ sb) vs D.safe from by
    refine Kd.R_mono (Kd.R_step (Kd.R_bound HX3.out.safe) (fun k hk hlt => hg4.block k hlt (fun e => ?_))) (fun _ hk => hk.1)
    obtain ⟨_, _, _, q, hq, cells, hc⟩ := hk
    obtain ⟨cells', hcells⟩ := own_typed (Kd.R_own HX3.out.waits).choose_spec k e.symm
    rw [hc] at hcells
    cases hcells
    exact absurd hq (by decide))
  have d1 : w4.cell? ⟨xb, 1, none⟩ = some (.slice AW D.waits.length cW) := cell_blk k4
  have g1 : w4.frozen? ⟨xb, 1, none⟩ = false := frozen_blk k4
  have HF4 := Aside0.mk (show FX base xb w1 w4 from (Fr.of_below HB3.out).trans ⟨hg4.os, hg4.tape, hg4.output, hg4.size, fun k hk hne ht => hg4.block k hk (fun e => by
    obtain ⟨cells, hcells⟩ := own_typed (Kd.R_own HX3.out.waits).choose_spec k e.symm
    exact ht _ _ _ hcells ⟨HX3.out.wown k e.symm, .inr rfl⟩)⟩)
  clear ho4 hg4 hat4 k4 hned
  refine hK.out _ _ ?_
  clear hK K
  try simp only [Act.put, List.setIfInBounds_toArray, List.set_cons_succ, List.set_cons_zero]
  refine Go.Reg.lex_qp 2 _ _ _ _ _ (by rfl) ?_; simp only [List.take_succ_cons, List.take_zero, List.drop_succ_cons, List.drop_zero]; (repeat (go_big_quiet_step (rfl))); refine wpQuiet_nil ?_
  refine Go.Reg.step_x (by rfl) (fun K hK => ?_)
  go_wp2_with fail
  refine hK.out _ _ ?_
  clear hK K
  refine Go.Reg.lex_nil ?_
  have hset := blk_set HK4.out 1 (.slice A4 (D.waits.length + 1) c4)
  obtain ⟨w5, hw5⟩ : ∃ w5, w5 = w4.setCell ⟨xb, 1, none⟩ (.slice A4 (D.waits.length + 1) c4) := ⟨_, rfl⟩
  have hp5 : RD w5 base sb xb (waitD D N bs) := by
    refine ⟨vs, .slice A4 (D.waits.length + 1) c4, wait_ok HX.out.ok N bs hN hl HBY.out, HX.out.xbase, ?_, HX.out.sown, HWO.out, ?_, ?_, ?_⟩
    · rw [hw5]; have := HF4.out.size; simp [World.setCell]; omega
    · rw [hw5, hset]; rfl
    · rw [hw5]; exact Kd.R_set HSF.out HK4.out (by decide) 1 _
    · rw [hw5]; exact Kd.R_set HO4.out HK4.out (by decide) 1 _
  have hf5 : FX base xb w1 w5 := by rw [hw5]; exact HF4.out.trans (.set _ _ _ _ rfl)
  try rw [← hw5]
  have HP5 := Aside0.mk hp5
  have HF5 := Aside0.mk hf5
  clear hw5 hset hp5 hf5 d1 g1
  go_wp2_with fail
  refine (xdeed_any HP5.out).mono ?_
  rintro e w6 ⟨rfl, hp6, hf6⟩
  have HP6 := Aside0.mk hp6
  have HF6 := Aside0.mk (HF5.out.trans hf6)
  clear hp6 hf6
  have hwd : writeD D N bs = if D.left = 0 then (deedD (waitD D N bs), 9) else ({ deedD (waitD D N bs) with writes := wrap64 (D.writes + 1) }, 0) := by
    unfold writeD
    rw [HR.out, if_neg (by simp), if_neg (by rw [hl]; simp)]
  have HWD := Aside0.mk hwd
  clear hwd
  by_cases hz : D.left = 0
  · rw [show (waitD D N bs).left = D.left from rfl, decide_eq_false (fun h => h hz)]
    go_wp2_with fail
    go_ret
    rw [HWD.out, if_pos hz]
    exact ⟨rfl, HP6.out, HF6.out⟩
  · rw [show (waitD D N bs).left = D.left from rfl, decide_eq_true hz]
    obtain ⟨vs6, vw6, hx6⟩ := HP6.out
    have hwr : (deedD (waitD D N bs)).writes = D.writes := by unfold deedD; rw [show (waitD D N bs).left = D.left from rfl, if_neg hz]; rfl
    have c5 : w6.cell? ⟨xb, 5, none⟩ = some (.int .i64 D.writes) := by rw [← hwr]; exact cell_blk hx6.cells
    have f5 : w6.frozen? ⟨xb, 5, none⟩ = false := frozen_blk hx6.cells
    have HX6 := Aside0.mk hx6
    have HWR := Aside0.mk hwr
    clear hx6 hwr
    go_wp2_with fail
    go_ret
    rw [HWD.out, if_neg hz]
    exact ⟨rfl, ⟨vs6, vw6, HX6.out.put 5 _ (D' := { deedD (waitD D N bs) with writes := wrap64 (D.writes + 1) }) (cnt_ok HX6.out.ok rfl rfl rfl) rfl rfl rfl⟩, HF6.out.trans (.set _ _ _ _ rfl)⟩
end Disk
end Go.Proofs.YtclneeamemofoaaGreat
namespace Go.Proofs.YtclneeamemofoaaGreat
set_option linter.unusedVariables false
set_option linter.unusedSimpArgs false
open Go.RowKit Go.Proofs.YtclneeamemofoaaGreatW.PrintWords Go.Proofs.YtclneeamemofoaaGreatW.PrintLast Go.Proofs.YtclneeamemofoaaGreatW.PrintMore
namespace Disk
open Go.Disk PDiskDoes PChain
theorem sec_all {l : List Int} (h : l.length = 256) : l = ((sec 0 l ++ sec 1 l) ++ sec 2 l) ++ sec 3 l := by
  have e : ∀ n, l.take (n + 64) = l.take n ++ (l.drop n).take 64 := fun n => List.take_add
  have h4 : l.take 256 = l := by rw [← h]; exact List.take_length
  have h1 := e 0
  have h2 := e 64
  have h3 := e 128
  have h5 := e 192
  simp only [List.take_zero, List.nil_append, Nat.zero_add, Nat.reduceAdd] at h1 h2 h3 h5
  unfold sec
  simp only [Nat.mul_zero, Nat.mul_one, Nat.reduceMul]
  rw [← h1, ← h2, ← h3, ← h5, h4]
theorem on_eq (m : Int) (i : Nat) (hi : i ≤ 4) : (Go.bits .and .i64 (shr .i64 m (i : Int)) 1 = 1) ↔ onM m i = true := by
  have h : shr .i64 m (i : Int) = m / 2 ^ i := by
    unfold shr
    rw [Int.toNat_natCast, Nat.min_eq_left (by show i ≤ 64; omega)]
  rw [h]
  unfold onM
  exact beq_iff_eq.symm
theorem torn_step (k : Nat) (was bs : List Int) (m : Int) (x : List Int) (i : Nat) (hi : i < 4) (hw : was.length = 256) (hb : bs.length = 256) (hx : x.length ≤ 256) :
    chantryref06_torn.l0 (k + 1) was bs m x (i : Int) = chantryref06_torn.l0 k was bs m (x ++ if onM m i = true then sec i bs else sec i was) ((i + 1 : Nat) : Int) := by
  simp only [chantryref06_torn.l0]
  have w1 : wrap64 (64 * (i : Int)) = 64 * (i : Int) := wrap_id _ (by omega) (by omega)
  have w2 : wrap64 (64 * (i : Int) + 64) = 64 * (i : Int) + 64 := wrap_id _ (by omega) (by omega)
  have w3 : wrap64 ((i : Int) + 1) = ((i + 1 : Nat) : Int) := (wrap_id _ (by omega) (by omega)).trans (by omega)
  have hs : ∀ l : List Int, (l.take (64 * (i : Int) + 64).toNat).drop (64 * (i : Int)).toNat = sec i l := fun l => by
    rw [show (64 * (i : Int) + 64).toNat = 64 * i + 64 by omega, show (64 * (i : Int)).toNat = 64 * i by omega, List.drop_take, show 64 * i + 64 - 64 * i = 64 by omega]
    rfl
  rw [w1, w2, w3, hs, hs, sec_len i hi bs hb, sec_len i hi was hw]
  rw [if_pos (by omega), if_pos (by omega)]
  by_cases ho : onM m i = true
  · rw [if_pos ((on_eq m i (by omega)).2 ho), if_pos (by omega), if_pos (by omega), if_pos (by omega), if_pos (by omega), if_pos ho]
  · rw [if_neg (fun h => ho ((on_eq m i (by omega)).1 h)), if_pos (by omega), if_pos (by omega), if_pos (by omega), if_pos (by omega), if_neg ho]
theorem torn_plain (was bs : List Int) (m : Int) (hw : was.length = 256) (hb : bs.length = 256) : chantryref06_torn.f 5 was bs m = some (tornTo (onM m) was bs 4) := by
  have hs : ∀ k, k < 4 → (if onM m k = true then sec k bs else sec k was) = sec k (tornTo (onM m) was bs 4) := fun k hk => (sec_torn (onM m) was bs hw hb k hk).symm
  have hl := tornTo_len (onM m) was bs hw hb 4 (Nat.le_refl _)
  have l0 := sec_len 0 (by omega) _ hl
  have l1 := sec_len 1 (by omega) _ hl
  have l2 := sec_len 2 (by omega) _ hl
  have l3 := sec_len 3 (by omega) _ hl
  unfold chantryref06_torn.f
  have s0 := torn_step 4 was bs m [] 0 (by omega) hw hb (by simp)
  rw [hs 0 (by omega), List.nil_append] at s0
  have s1 := torn_step 3 was bs m (sec 0 (tornTo (onM m) was bs 4)) 1 (by omega) hw hb (by omega)
  rw [hs 1 (by omega)] at s1
  have s2 := torn_step 2 was bs m (sec 0 (tornTo (onM m) was bs 4) ++ sec 1 (tornTo (onM m) was bs 4)) 2 (by omega) hw hb (by rw [List.length_append]; omega)
  rw [hs 2 (by omega)] at s2
  have s3 := torn_step 1 was bs m ((sec 0 (tornTo (onM m) was bs 4) ++ sec 1 (tornTo (onM m) was bs 4)) ++ sec 2 (tornTo (onM m) was bs 4)) 3 (by omega) hw hb (by rw [List.length_append, List.length_append]; omega)
  rw [hs 3 (by omega), ← sec_all hl] at s3
  refine (s0.trans (s1.trans (s2.trans s3))).trans ?_
  simp only [chantryref06_torn.l0]
  rw [if_neg (by decide)]
theorem Fr.set_ty {bs : Nat → Prop} {ts : Nat → Nat → Prop} {w : World} {b t : Nat} {cs : Array Value} {fz : Nat × Nat} (hb : w.heap[b]? = some (.cells cs t fz)) (ht : ts b t) (k : Nat) (v : Value) : Fr bs ts w (w.setCell ⟨b, k, none⟩ v) :=
  ⟨rfl, rfl, rfl, by simp [World.setCell], fun i _ _ h2 => by
    by_cases hi : i = b
    · subst hi; exact absurd ht (h2 _ _ _ hb)
    · exact Below.heap_setCell _ _ _ _ hi⟩
theorem put_safe {w : World} {base sb xb g cap : Nat} {D : Dk} {vw : Value} (h : RDx w base sb xb D (.slice (some ⟨g, 0, none⟩) D.safe.length cap) vw) (n : Nat) (hn : n < D.safe.length) (v : Value) (bs : List Int) (hl : bs.length = 256) (hby : ∀ x ∈ bs, 0 ≤ x ∧ x ≤ 255) (hv : Kd.R (Kd.int .u8) 5 w 0 (fun k => k ≠ sb) v bs) :
    RDx (w.setCell ⟨g, n, none⟩ v) base sb xb { D with safe := D.safe.set n bs } (.slice (some ⟨g, 0, none⟩) D.safe.length cap) vw ∧ FX base xb w (w.setCell ⟨g, n, none⟩ v) := by
  obtain ⟨cells, hg⟩ := own_typed (Kd.R_own h.safe).choose_spec g (by simp [Value.ownBlock])
  have hne : xb ≠ g := by
    rintro rfl
    have := h.cells.symm.trans hg
    simp at this
  refine ⟨⟨ok_set h.ok n bs hl hby, h.xbase, by simpa [World.setCell] using h.slt, h.sown, h.wown, ?_, ?_, ?_⟩, Fr.set_ty hg ⟨h.sown g (by simp [Value.ownBlock]), .inl rfl⟩ n v⟩
  · rw [Below.heap_setCell _ _ _ _ hne]
    exact h.cells
  · exact put_row h.safe n hn v bs (Kd.R_types hv hg (by decide))
  · exact Kd.R_set h.waits hg (by decide) n v
set_option maxHeartbeats 8000000 in
set_option maxRecDepth 100000 in
theorem xflush_off {w : World} {base sb xb : Nat} {D : Dk} (h : RD w base sb xb D) (hr : D.off = true) :
    Calls Tryz.prog 32 #[.pointer (some ⟨xb, 0, none⟩)] w fun e w' => e = .returned (.int .i64 9) ∧ w' = w := by
  obtain ⟨vs, vw, hx⟩ := h
  have c3 : w.cell? ⟨xb, 3, none⟩ = some (.bool true) := by rw [← hr]; exact cell_blk hx.cells
  clear hx hr
  go_enter Tryz.func32, Tryz.ntmps32
  go_wp2_with fail
  go_ret
  exact ⟨rfl, rfl⟩
set_option maxHeartbeats 8000000 in
set_option maxRecDepth 100000 in
theorem xflush_stop {w : World} {base sb xb : Nat} {D : Dk} (h : RD w base sb xb D) (hr : D.off = false) (hl : D.left = 0) :
    Calls Tryz.prog 32 #[.pointer (some ⟨xb, 0, none⟩)] w fun e w' => e = .returned (.int .i64 9) ∧ RD w' base sb xb (deedD D) ∧ FX base xb w w' := by
  have HP := Aside0.mk h
  obtain ⟨vs, vw, hx⟩ := h
  have c3 : w.cell? ⟨xb, 3, none⟩ = some (.bool false) := by rw [← hr]; exact cell_blk hx.cells
  have hd := xdeed_any HP.out
  rw [decide_eq_false (fun h => h hl)] at hd
  clear hx hr hl
  go_enter Tryz.func32, Tryz.ntmps32
  go_wp2_with fail
  refine hd.mono ?_
  rintro e w1 ⟨rfl, p, f⟩
  have HP1 := Aside0.mk p
  have HF1 := Aside0.mk f
  clear p f hd c3
  go_wp2_with fail
  go_ret
  exact ⟨rfl, HP1.out, HF1.out⟩
set_option maxHeartbeats 8000000 in
set_option maxRecDepth 100000 in
theorem xflush_yes {w : World} {base sb xb : Nat} {D : Dk} (h : RD w base sb xb D) (hr : D.off = false) (hl : D.left ≠ 0) (hfew : D.waits.length ≤ 1000000) :
    Calls Tryz.prog 32 #[.pointer (some ⟨xb, 0, none⟩)] w fun e w' => e = .returned (.int .i64 0) ∧ RD w' base sb xb (flushD (deedD D)) ∧ FX base xb w w' := by
  have HP := Aside0.mk h
  obtain ⟨vs, vw, hx⟩ := h
  have c3 : w.cell? ⟨xb, 3, none⟩ = some (.bool false) := by rw [← hr]; exact cell_blk hx.cells
  have hd := xdeed_any HP.out
  rw [decide_eq_true hl] at hd
  obtain ⟨E, hE⟩ : ∃ E, E = deedD D := ⟨_, rfl⟩
  have hwe : E.waits = D.waits := by rw [hE]; unfold deedD; rw [if_neg hl]
  rw [← hE] at hd ⊢
  rw [← hwe] at hfew
  clear hx hr hl hE hwe
  go_enter Tryz.func32, Tryz.ntmps32
  go_wp2_with fail
  refine hd.mono ?_
  rintro e w1 ⟨rfl, p, f⟩
  obtain ⟨vs, vw, hx⟩ := p
  obtain ⟨g, cap, rfl, _⟩ := Kd.R_form hx.safe (by have := hx.ok.few; omega)
  obtain ⟨AW, cW, rfl, hcW, _⟩ := Kd.R_reads hx.waits
  have hsl := (Kd.R_reads' hx.safe).1
  rw [hsl] at hx
  have HX := Aside0.mk (show RDx w1 base sb xb (safeTo E 0) (.slice (some ⟨g, 0, none⟩) E.safe.length cap) (.slice AW E.waits.length cW) from hx)
  have HF1 := Aside0.mk f
  have HCAP := Aside0.mk (Kd.R_reads' hx.safe).2.1
  clear f hd c3 hx hsl
  go_wp2_with fail
  go_loopg [3] E.waits.length (fun gg v3 wr => ∃ (i : Nat), Aside0 (i + gg = E.waits.length) ∧ v3 = .int .i64 i ∧ Aside0 (RDx wr base sb xb (safeTo E i) (.slice (some ⟨g, 0, none⟩) E.safe.length cap) (.slice AW E.waits.length cW)) ∧ Aside0 (FX base xb w wr))
  case atStart => exact ⟨0, ⟨by omega⟩, rfl, HX, HF1⟩
  case round =>
    clear HX HF1
    obtain ⟨i, HI, rfl, HX, HF⟩ := hrel
    have c1 : wr.cell? ⟨xb, 1, none⟩ = some (.slice AW E.waits.length cW) := cell_blk HX.out.cells
    by_cases hi : i < E.waits.length
    · obtain ⟨g1, cap1, vb, hvw, hw0, hw1, hwr, hgs, hgl, _⟩ := W_at HX.out.waits i hi
      cases hvw
      have e1 : (safeTo E i).waits[i]'hi = E.waits[i] := rfl
      try rw [e1] at hw0
      try rw [e1] at hwr
      have hat := HX.out.ok.at_ E.waits[i] (List.getElem_mem hi)
      have HNX := Aside0.mk (safeTo_next E i hi)
      have hsl : (safeTo E i).safe.length = E.safe.length := flushTo_len _ _
      rw [hsl] at hat
      clear e1
      obtain ⟨N, hN⟩ : ∃ N, N = E.waits[i].1 := ⟨_, rfl⟩
      obtain ⟨bs, hbs⟩ : ∃ bs, bs = E.waits[i].2 := ⟨_, rfl⟩
      rw [← hN, ← hbs] at hat
      rw [← hN] at hw0
      rw [← hbs] at hwr
      rw [← hN, ← hbs] at HNX
      clear hN hbs
      obtain ⟨n, hn⟩ : ∃ n : Nat, N = n := ⟨N.toNat, by have := hat.1; omega⟩
      subst hn
      rw [Int.toNat_natCast] at HNX
      obtain ⟨ab, cb, rfl⟩ := Kd.R_slice hwr
      have hnl : n < E.safe.length := by have := hat.2.1; omega
      have hfew2 := HX.out.ok.few
      rw [hsl] at hfew2
      obtain ⟨L, hL⟩ : ∃ L, L = E.safe.length := ⟨_, rfl⟩
      rw [← hL] at hnl hfew2 hsl HX
      have HLL := Aside0.mk hL
      rw [← hsl] at HX
      have hput := put_safe (HX.out.below (below_drew1 (Below.refl _ _))) n (by rw [hsl]; exact hnl) (.slice ab bs.length cb) bs hat.2.2.1 hat.2.2.2 hwr
      rw [hsl] at HX hput
      have HPUT := Aside0.mk hput
      have c0 : wr.cell? ⟨xb, 0, none⟩ = some (.slice (some ⟨g, 0, none⟩) L cap) := cell_blk HX.out.cells
      obtain ⟨cells, hg⟩ := own_typed (Kd.R_own HX.out.safe).choose_spec g (by simp [Value.ownBlock])
      have fg : wr.frozen? ⟨g, n, none⟩ = false := frozen_blk hg
      obtain ⟨vold, hold⟩ : ∃ vold, wr.cell? ⟨g, n, none⟩ = some vold := by
        obtain ⟨g', cap', A', c', h1, h2, _⟩ := S_at HX.out.safe n (by rw [hsl]; exact hnl)
        cases h1
        exact ⟨_, h2⟩
      clear hput hat hwr hg hL
      have hm0 : ∀ m : Go.Reg.In (fun x => x = wr.drew), m.w.cell? ⟨xb, 0, none⟩ = some (.slice (some ⟨g, 0, none⟩) L cap) := fun m => by rw [m.h]; exact c0
      have hm1 : ∀ m : Go.Reg.In (fun x => x = wr.drew), m.w.cell? ⟨xb, 1, none⟩ = some (.slice (some ⟨g1, 0, none⟩) E.waits.length cW) := fun m => by rw [m.h]; exact c1
      have hm2 : ∀ m : Go.Reg.In (fun x => x = wr.drew), m.w.cell? ⟨g1, i * 2, none⟩ = some (.int .i64 n) := fun m => by rw [m.h]; exact hw0
      have hm3 : ∀ m : Go.Reg.In (fun x => x = wr.drew), m.w.cell? ⟨g1, i * 2 + 1, none⟩ = some (.slice ab bs.length cb) := fun m => by rw [m.h]; exact hw1
      go_wp2_with fail
      refine Go.Reg.region (fun x => x = wr.drew) [.s, .s, .s, .s, .s, .s, .s, .s, .s, .s, .s, .s, .s, .s, .s, .s, .s, .s, .s, .s, .s, .x] (by kernel_rfl) (by kernel_rfl) rfl (fun ne => ?_)
      refine Go.Reg.lex_q 21 _ _ _ _ (by rfl) ?_; simp only [List.take_succ_cons, List.take_zero, List.drop_succ_cons, List.drop_zero]; (repeat (go_big_quiet_step (rfl))); refine wpQuiet_nil ?_
      refine Go.Reg.step_x (by rfl) (fun K hK => ?_)
      clear hm0 hm1 hm2 hm3
      go_wp2_with fail
      refine hK.out _ _ ?_
      clear hK K
      refine Go.Reg.lex_nil ?_
      go_wp2_with fail
      go_roundg (gk - 1)
      case measure => have := HI.out; omega
      case rel => exact ⟨i + 1, ⟨by have := HI.out; omega⟩, by go_num, ⟨by rw [HNX.out, ← HLL.out]; exact HPUT.out.1⟩, ⟨HF.out.trans ((Fr.of_below (below_drew1 (Below.refl _ _))).trans HPUT.out.2)⟩⟩
    · have hin : i = E.waits.length := by have := HI.out; omega
      subst hin
      have f1 : wr.frozen? ⟨xb, 1, none⟩ = false := frozen_blk HX.out.cells
      have hx := HX.out
      have hb1 := blk_set hx.cells 1 (.slice none 0 0)
      obtain ⟨w8, hw8⟩ : ∃ w8, w8 = wr.setCell ⟨xb, 1, none⟩ (.slice none 0 0) := ⟨_, rfl⟩
      rw [← hw8] at hb1
      have hx8 : RDx w8 base sb xb { safeTo E E.waits.length with waits := [] } (.slice (some ⟨g, 0, none⟩) E.safe.length cap) (.slice none 0 0) := by
        refine ⟨none_ok hx.ok, hx.xbase, by rw [hw8]; simpa [World.setCell] using hx.slt, hx.sown, fun _ h => by simp [Value.ownBlock] at h, ?_, by rw [hw8]; exact Kd.R_set hx.safe hx.cells (by decide) 1 _, Kd.R_nil _ _ _ _ _⟩
        rw [hb1]; rfl
      have HX8 := Aside0.mk hx8
      have HF8 := Aside0.mk (show FX base xb w w8 by rw [hw8]; exact HF.out.trans (.set _ _ _ _ rfl))
      have HW8 := Aside0.mk hw8
      clear hw8 hb1 hx8 hx
      have c6 : wr.cell? ⟨xb, 6, none⟩ = some (.int .i64 E.flushes) := cell_blk HX.out.cells
      have f6 : wr.frozen? ⟨xb, 6, none⟩ = false := frozen_blk HX.out.cells
      go_wp2_with fail
      rw [← HW8.out]
      go_ret
      exact ⟨rfl, ⟨_, _, HX8.out.put 6 _ (D' := flushD E) (cnt_ok HX8.out.ok rfl rfl rfl) rfl rfl rfl⟩, HF8.out.trans (.set _ _ _ _ rfl)⟩
end Disk
end Go.Proofs.YtclneeamemofoaaGreat
end
