import Derived.Test.YtkfbegmfepehiaaZIt
import Derived.Test.YtkfbegmfepehiaaZSp
import Derived.Test.YtkfbegmfepehiaaZRegF
import Derived.Test.YtkfbegmfepehiaaZRg
import Derived.Lib.Hide
import Derived.Maps.OwnIn
namespace Go.Proofs.Ytkfbegmfepehiaa
set_option linter.unusedVariables false
set_option linter.unusedSimpArgs false
set_option linter.ambiguousOpen false
open Go.RowKit Go.Shelf Go.Proofs.YtkfbegmfepehiaaW.PrintWords Go.Proofs.YtkfbegmfepehiaaW.PrintLast Go.Proofs.YtkfbegmfepehiaaW.PrintMore
attribute [local go_sem] Oper.semAt_some min2_int min_two
namespace Sect
open Go.Num Go.Crc Go.Proofs.Ytkfbegmfepehiaa.Cell
def KeptC (m b1 b2 : Nat) (A B : World) : Prop := Below m A B ∧ B.heap[b1]? = A.heap[b1]? ∧ B.heap[b2]? = A.heap[b2]?
theorem KeptC.trans {m b1 b2 : Nat} {A B C : World} (h : KeptC m b1 b2 A B) (k : KeptC m b1 b2 B C) : KeptC m b1 b2 A C := ⟨h.1.trans k.1, k.2.1.trans h.2.1, k.2.2.trans h.2.2⟩
theorem KeptC.putObj {m b1 b2 : Nat} {w : World} (hm : m ≤ w.heap.size) (hb1 : b1 < w.heap.size) (hb2 : b2 < w.heap.size) (W : World) (l : Nat) (o o' : Obj) (hl : w.heap.size ≤ l) (h : W.heap[l]? = some o) (h1 : o.isCells = false) (h2 : o.isWalk = false) : KeptC m b1 b2 W (W.putObj l o') :=
  ⟨belowK_b hm W l o o' hl h h1 h2, World.putObj_heap_other (by omega), World.putObj_heap_other (by omega)⟩
structure Chu where
  a : Option Addr
  d : List Int
def Chu.enc (x : Chu) : Array Value := #[.slice x.a x.d.length x.d.length]
def ChuOk (A : Option Addr) (text : List Int) (pre : List Chu) (x : Chu) (_ : World) : Prop :=
  x.d = (text.drop (48 * pre.length)).take 48 ∧ ∃ a, A = some a ∧ x.a = some (a.add (48 * pre.length))
theorem chu_C {y : World} {a : Addr} {text : List Int} (h : Kd.C (Kd.int .u8) y (some a) text.length text) (j : Nat) (hj : 48 * j < text.length) {d : List Int} (hd : d = (text.drop (48 * j)).take 48) : Kd.C (Kd.int .u8) y (some (a.add (48 * j))) d.length d := by
  have hl : d.length = min 48 (text.length - 48 * j) := by rw [hd, List.length_take, List.length_drop]
  have h2 := mid_C h (48 * j) d.length (by rw [hl]; omega)
  have e : (text.drop (48 * j)).take d.length = d := by
    rw [hl, hd]
    by_cases h : 48 ≤ text.length - 48 * j
    · rw [Nat.min_eq_left h]
    · rw [Nat.min_eq_right (by omega), List.take_of_length_le (by rw [List.length_drop]; omega), List.take_of_length_le (by rw [List.length_drop]; omega)]
  rw [e] at h2
  exact h2
set_option maxRecDepth 100000 in
set_option maxHeartbeats 4000000 in
theorem chunk1_in (n : Nat) (hn : 1 ≤ n) (l Bt Bn m n₀ : Nat) (text : List Int) (A : Option Addr) (c : Nat) (hc : text.length ≤ c) (hmt : m ≤ Bt) (hmn : m ≤ Bn) (hfew : text.length ≤ 100000) (J Jx : List Chu → World → Prop)
    (W : World) (hT : ∀ x, Below m W x → Kd.C (Kd.int .u8) x A text.length text)
    (hJ : ∀ s A B, J s A → Only Bt A B → J s B) (hJx : ∀ s A B, Jx s A → Only Bt A B → Jx s B)
    (hY : ∀ pre x W1, J pre W1 → pre.length < (text.length + 47) / 48 → ChuOk A text pre x W1 → YieldAt Fence.wide (n - 1) Try.prog l x.enc W1 fun e W' =>
      (e = .returned (.bool true) ∧ J (pre ++ [x]) W' ∧ KeptC m Bt Bn W1 W') ∨ (e = .returned (.bool false) ∧ Jx (pre ++ [x]) W'))
    (hBt : W.heap[Bt]? = some (.cells #[.slice A text.length c] 22 (0, 0))) (hBn : W.heap[Bn]? = some (.cells #[.int .i64 48] 3 (0, 0))) (h0 : J [] W) :
    CallsIn Fence.wide n Try.prog 67 #[.func (.yield l) #[] #[], .pointer (some ⟨Bt, 0, none⟩), .pointer (some ⟨Bn, 0, none⟩)] W fun e W' => (∃ v, e = .returned v) ∧
      ((∃ ys, ys.length = (text.length + 47) / 48 ∧ J ys W') ∨ (∃ pre, True ∧ Jx pre W')) := by
  have HT := Aside0.mk hT
  have HBT := Aside0.mk hBt
  have HBN := Aside0.mk hBn
  have HY := Aside0.mk hY
  have HJ := Aside0.mk hJ
  have HJX := Aside0.mk hJx
  clear hT hBt hBn hY hJ hJx
  obtain ⟨tn, htn⟩ : ∃ tn, tn = text.length := ⟨_, rfl⟩
  rw [← htn] at hc hfew ⊢
  have HTN := Aside0.mk htn
  clear htn
  refine callsIn_of_wp Try.func67 rfl trivial ?_ rfl
  simp only [Try.ntmps67, List.size_toArray, List.length_cons, List.length_nil, Nat.reduceAdd, Nat.reduceSub, Array.replicate_succ, Array.replicate_zero, List.push_toArray, List.append_toArray, List.nil_append, List.cons_append]
  gi_wp2
  gi_loopw [4] (fun i wr => ∃ (k : Nat) (pre : List Chu), Aside0 (pre.length = k ∧ 48 * k ≤ tn + 47) ∧ i = .int .i64 ((48 * k : Nat) : Int) ∧ Aside0 (J pre wr) ∧ Aside0 (Below m W wr) ∧ Aside0 (wr.heap[Bt]? = some (.cells #[.slice A tn c] 22 (0, 0)) ∧ wr.heap[Bn]? = some (.cells #[.int .i64 48] 3 (0, 0))))
    (fun i _ => (tn + 48 - (intOf i)).toNat)
  case atStart => exact ⟨0, [], ⟨rfl, by simp⟩, by simp, ⟨h0⟩, ⟨Below.refl _ _⟩, ⟨by rw [HTN.out]; exact HBT.out, HBN.out⟩⟩
  case round =>
    obtain ⟨k, pre, HA, rfl, HJP, HB, HX⟩ := hrel
    have b0 : wr.cell? ⟨Bt, 0, none⟩ = some (.slice A tn c) := cell_blk HX.out.1
    have b1 : wr.cell? ⟨Bn, 0, none⟩ = some (.int .i64 48) := cell_blk HX.out.2
    by_cases hz : 48 * k < tn
    · have hzi : ((48 * k : Nat) : Int) < (tn : Int) := by omega
      obtain ⟨i, hi⟩ : ∃ i, i = 48 * k := ⟨_, rfl⟩
      rw [← hi] at hzi ⊢
      have HI := Aside0.mk hi
      clear hi hz
      gi_wp2
      obtain ⟨a, rfl⟩ : ∃ a, A = some a := by
        have h1 := HT.out _ HB.out
        obtain ⟨a, ha, _⟩ := h1.2.2 (by rw [← HTN.out]; omega)
        exact ⟨a, ha⟩
      have hit : i < tn := by omega
      have hci : ¬ c = i := by omega
      have m0 : ∀ m : Go.Reg.In (fun x => x = wr.drew), m.w.cell? ⟨Bt, 0, none⟩ = some (.slice (some a) tn c) := fun m => by rw [m.h]; exact cell_blk (show wr.drew.heap[Bt]? = _ from HX.out.1)
      have m1 : ∀ m : Go.Reg.In (fun x => x = wr.drew), m.w.cell? ⟨Bn, 0, none⟩ = some (.int .i64 48) := fun m => by rw [m.h]; exact cell_blk (show wr.drew.heap[Bn]? = _ from HX.out.2)
      refine wpIn_wide.2 ?_
      refine Go.Reg.region (fun x => x = wr.drew) [.s, .s, .s, .s, .s, .s, .s] (by kernel_rfl) (by kernel_rfl) rfl (fun ne => ?_)
      refine Go.Reg.lex_q 7 _ _ _ _ (by rfl) ?_; simp only [List.take_succ_cons, List.take_zero, List.drop_succ_cons, List.drop_zero]; (repeat (go_big_quiet_step (rfl))); refine wpQuiet_nil ?_
      refine Go.Reg.lex_nil ?_
      clear m0 m1
      obtain ⟨en, hen⟩ : ∃ en, en = min 48 (tn - i) := ⟨_, rfl⟩
      rw [show (if ((tn - i : Nat) : Int) < 48 then ((tn - i : Nat) : Int) else 48) = (en : Int) by rw [hen]; split <;> omega]
      have he1 : 0 < en := by omega
      have he2 : i + en ≤ tn := by omega
      have he3 : en ≤ 48 := by omega
      have HEN := Aside0.mk hen
      clear hen
      obtain ⟨V, hV⟩ : ∃ V, V = wr.drew := ⟨_, rfl⟩
      have hbV : Below wr.heap.size wr V := by rw [hV]; exact below_drew1 (Below.refl _ _)
      rw [← hV]
      clear hV
      have HBV := Aside0.mk hbV
      have b0 : V.cell? ⟨Bt, 0, none⟩ = some (.slice (some a) tn c) := cell_blk ((hbV.block _ (blk_lt HX.out.1)).trans HX.out.1)
      have b1 : V.cell? ⟨Bn, 0, none⟩ = some (.int .i64 48) := cell_blk ((hbV.block _ (blk_lt HX.out.2)).trans HX.out.2)
      have hwi : wrap64 ((i : Int) + (en : Int)) = ((i + en : Nat) : Int) := by unfold wrap64; omega
      clear hbV
      obtain ⟨d, hd⟩ : ∃ d, d = (text.drop (48 * k)).take 48 := ⟨_, rfl⟩
      have hdl : d.length = en := by rw [hd, List.length_take, List.length_drop, ← HTN.out, HEN.out, HI.out]
      obtain ⟨fn, tmps, assign, body, hy, hRd⟩ := HY.out pre ⟨some (a.add i), d⟩ V (HJ.out _ _ _ HJP.out (Only.of_below HBV.out)) (by have := HA.out; have := HI.out; have := HTN.out; omega) ⟨by rw [HA.out.1]; exact hd, a, rfl, by rw [HA.out.1, HI.out]⟩
      simp only [Chu.enc] at hy
      rw [hdl] at hy
      clear hd hdl
      gi_wp2
      refine hRd.mono ?_
      clear hRd hy
      rintro e W3 (⟨rfl, hJ3, k3⟩ | ⟨rfl, hJx3⟩)
      · have hx3 := And.intro (k3.2.1.trans ((HBV.out.block _ (blk_lt HX.out.1)).trans HX.out.1)) (k3.2.2.trans ((HBV.out.block _ (blk_lt HX.out.2)).trans HX.out.2))
        have HX3 := Aside0.mk hx3
        have b3 : W3.cell? ⟨Bn, 0, none⟩ = some (.int .i64 48) := cell_blk hx3.2
        clear hx3
        have hpl1 : (pre ++ [(⟨some (a.add i), d⟩ : Chu)]).length = k + 1 := by rw [List.length_append, HA.out.1]; rfl
        gi_wp2
        go_roundw
        case rel =>
          refine ⟨k + 1, pre ++ [⟨some (a.add i), d⟩], ⟨hpl1, by have := HA.out; have := HI.out; omega⟩, ?_, ⟨hJ3⟩, ⟨HB.out.trans ((HBV.out.mono (by have := blk_lt HX.out.1; omega)).trans k3.1)⟩, HX3⟩
          congr 1
          have := HI.out
          omega
        case measure =>
          have := HI.out
          simp only [intOf]
          omega
      · gi_wp2
        refine bodyPost_ret (results_none rfl _ _ _) rfl ?_
        exact ⟨⟨_, rfl⟩, .inr ⟨_, trivial, hJx3⟩⟩
    · obtain ⟨i, hi⟩ : ∃ i, i = 48 * k := ⟨_, rfl⟩
      have hzi : ¬ ((i : Nat) : Int) < (tn : Int) := by omega
      rw [← hi]
      have HI := Aside0.mk hi
      clear hi
      gi_wp2
      go_end0
      exact ⟨⟨_, rfl⟩, .inl ⟨pre, by have := HA.out; omega, HJP.out⟩⟩
end Sect
end Go.Proofs.Ytkfbegmfepehiaa
namespace Go.Proofs.Ytkfbegmfepehiaa
set_option linter.unusedVariables false
set_option linter.unusedSimpArgs false
set_option linter.ambiguousOpen false
open Go.RowKit Go.Shelf Go.Proofs.YtkfbegmfepehiaaW.PrintWords Go.Proofs.YtkfbegmfepehiaaW.PrintLast Go.Proofs.YtkfbegmfepehiaaW.PrintMore
attribute [local go_sem] Oper.semAt_some min2_int min_two
namespace Sect
open Go.Num Go.Crc Go.Proofs.Ytkfbegmfepehiaa.Cell
theorem R_append_in {α : Type} {F : Fence} {n : Nat} {P : Program} {ops : Array Oper} {rest : List Oper} {o : Oper} {a : Act} {Q : Exit → Act → World → Prop} (d : Kd α) {w0 W : World} (base : Nat) (hgd : o.guard = none) (s x : Operand) (t e : TypeId) (z : Value) (bytes : Nat)
    (ho : o.op = .call { callee := .builtin .append, args := #[s, x], argTypes := #[t, t] })
    (ht : P.underlying t = some (.slice e)) (hinfo : (P.info? e).map (fun i => (i.zero, i.size, i.bytes)) = some (some z, d.sz, bytes)) (hz : z.cells.size = d.sz) (hs0 : 0 < d.sz) (hb0 : 0 < bytes)
    (v : Value) (xs : List α) (p : α) (cs : List Value) (ok okp : Nat → Prop) (hs : a.eval s = v) (hx : a.eval x = .slice (some ⟨W.heap.size, 0, none⟩) 1 1) (hp : d.M W base okp p cs) (hokp : ∀ k, okp k → ok k ∧ some k ≠ v.ownBlock) (hfresh : ∀ k, W.heap.size ≤ k → ok k)
    (HO : d.R e W base ok v xs) (HB : Below base w0 W) (hbase : base ≤ W.heap.size) (hl : (xs.length + 1) * bytes ≤ 140737488355328)
    (h : ∀ v1 w1, d.R e w1 base ok v1 (xs ++ [p]) → Below base w0 w1 → W.grownBy w1 v.ownBlock → (v1.ownBlock = v.ownBlock ∨ ∃ b, v1.ownBlock = some b ∧ W.heap.size ≤ b) → wpListIn F n P ops Q rest (a.put o.dst v1) w1) :
    wpListIn F n P ops Q (o :: rest) a (W.alloc (.cells cs.toArray e)) := by
  obtain ⟨h0, inner, hown, hr⟩ := HO
  obtain ⟨i0, hi, hzz⟩ := Option.map_eq_some_iff.1 hinfo
  simp only [Prod.mk.injEq] at hzz
  obtain ⟨hz0, hz1, hz2⟩ := hzz
  have hlen : xs.length + 1 ≤ 140737488355328 := Nat.le_trans (Nat.le_mul_of_pos_right _ hb0) hl
  have hcl := d.K_len (d.K_of_M hp)
  have hc1 := d.K_one (d.K_of_M hp)
  refine wpListIn_append_own_at (W.alloc (.cells cs.toArray e)) hgd s x t ho base e i0 z d.sz bytes ht hi hz0 hz1 hz2 hz hs0 v xs.length inner hs (hown.alloc _) ⟨W.heap.size, 0, none⟩ 1 1 cs hx (by rw [hcl]; simp)
    (by simpa using World.news_of_block (cs := cs.toArray) (t := e) (fr := (0, 0)) (heap_alloc_new W (.cells cs.toArray e))) hc1 (by simp only [maxLen]; omega) hl (by simp; omega) ?_
  intro v1 w1 hown1 hg _ hat
  have hg1 : W.grownBy w1 v.ownBlock := World.grownBy.trans (World.grownBy_alloc W _ _) hg
  have hat1 : v1.ownBlock = v.ownBlock ∨ ∃ b, v1.ownBlock = some b ∧ W.heap.size ≤ b := by
    rcases hat with hat | hat
    · exact .inl hat
    · exact .inr ⟨_, hat, by simp⟩
  exact h v1 w1 (Kd.R_appended h0 hr hp hokp hfresh hown1 hg1 hat1) ((HB.alloc hbase _).grown hg (by simp; omega) (own_base hown)) hg1 hat1
abbrev Se := PSectorGets.S44
def needS (n : Nat) : Nat := (n + 47) / 48
def pieceS (text : List Int) (j : Nat) : List Int := (text.drop (48 * j)).take 48
def kindS (k : Int) (j : Nat) : Int := if j = 0 then k else wrap64 (k + 1)
def numS (n : Int) : Nat → Int | 0 => n | j + 1 => wrap64 (numS n j + 1)
def secOf (k e n : Int) (text : List Int) (j : Nat) : Se := ⟨kindS k j, e, numS n j, (needS text.length : Int) - 1 - j, pieceS text j⟩
def okSec (x : Se) : Bool := secOk x.f0 x.f1 x.f2 x.f3 x.f4
def secsAt (k e n : Int) (text : List Int) (m : Nat) : List Se := (List.range m).map (secOf k e n text)
theorem secsAt_succ (k e n : Int) (text : List Int) (m : Nat) : secsAt k e n text (m + 1) = secsAt k e n text m ++ [secOf k e n text m] := by simp [secsAt, List.range_succ]
theorem secsAt_len (k e n : Int) (text : List Int) (m : Nat) : (secsAt k e n text m).length = m := by simp [secsAt]
def splitP (k e n : Int) (text : List Int) : List Se × Int :=
  if text.length = 0 then ([], 1) else if (List.range (needS text.length)).all (fun j => okSec (secOf k e n text j)) = true then (secsAt k e n text (needS text.length), 0) else ([], 1)
theorem needS_plain (n : Nat) (h : n ≤ 100000000) : PSectorGets.sector_Need.f (n : Int) = some (needS n : Int) := by
  unfold PSectorGets.sector_Need.f needS
  by_cases h0 : (n : Int) ≤ 0
  · rw [if_pos h0]; congr 1; omega
  · rw [if_neg h0]
    congr 1
    have e1 : wrap64 ((n : Int) - 1) = (n : Int) - 1 := by unfold wrap64; omega
    rw [e1, Int.tdiv_eq_ediv_of_nonneg (by omega)]
    have e2 : wrap64 (((n : Int) - 1) / 48) = ((n : Int) - 1) / 48 := by unfold wrap64; omega
    rw [e2]
    unfold wrap64
    omega
theorem needS_any {w : World} (n : Nat) (h : n ≤ 100000000) : Calls Try.prog 32 #[.int .i64 (n : Int)] w fun e w' => e = .returned (.int .i64 (needS n : Int)) ∧ Below w.heap.size w w' :=
  (PSectorGets.sector_Need.calls _ _ w (needS_plain n h)).mono (fun e w' hh => ⟨hh.1, by first | exact hh.2 | exact hh.2.below⟩)
theorem cells_kept {W W' : World} {row : Option Nat} {B t : Nat} {cs : Array Value} (h : W.heap[B]? = some (.cells cs t (0, 0))) (hg : W.grownBy W' row) (hr : ∀ r, row = some r → ∃ o : Obj, W.heap[r]? = some o ∧ o.isCells = false) : W'.heap[B]? = some (.cells cs t (0, 0)) :=
  (hg.block B (blk_lt h) (fun e => by obtain ⟨o, ho, hc⟩ := hr B e.symm; rw [h] at ho; cases ho; cases hc)).trans h
theorem R_keptrow {α : Type} {d : Kd α} {e base : Nat} {ok : Nat → Prop} {v : Value} {xs : List α} {X Y : World} {row : Option Nat} (h : d.R e X base ok v xs) (hg : X.grownBy Y row) (hr : ∀ r, row = some r → ∃ o : Obj, X.heap[r]? = some o ∧ o.isCells = false) : d.R e Y base ok v xs :=
  Kd.R_mono (Kd.R_step (Kd.R_bound h) (fun k hk hlt => hg.block k hlt (fun e => by obtain ⟨o, ho, hc⟩ := hr k e.symm; obtain ⟨_, _, _, q, _, cells, hcl⟩ := hk; rw [hcl] at ho; cases ho; cases hc))) (fun k hk => hk.1)
theorem keeps_below {W W' : World} (h : Below W.heap.size W W') : KeepsOthers W W' := ⟨h.size, fun k o ho _ => (h.block k (blk_lt ho)).trans ho⟩
theorem chunkv_any {w : World} (A : Option Addr) (len cap : Nat) :
    Calls Try.prog 55 #[.slice A len cap, .int .i64 48] w fun e w' => e = .returned (.func (.func 67) #[] #[.pointer (some ⟨w.heap.size, 0, none⟩), .pointer (some ⟨w.heap.size + 1, 0, none⟩)]) ∧ w' = (w.alloc (.cells #[.slice A len cap] 22)).alloc (.cells #[.int .i64 48] 3) := by
  go_enter Try.func55, Try.ntmps55
  go_wp2_with fail
  go_ret
  exact ⟨rfl, rfl⟩
set_option maxRecDepth 100000 in
set_option maxHeartbeats 8000000 in
theorem split_any {w : World} (k e n l : Int) (AD : Option Addr) (cd : Nat) (dd : Nat) (A : Option Addr) (c : Nat) (text : List Int) (hT : Kd.C (Kd.int .u8) w A text.length text) (hct : text.length ≤ c) (hfew : text.length ≤ 100000) (hb : ∀ x ∈ text, 0 ≤ x ∧ x ≤ 255) :
    Calls Try.prog 28 #[.agg #[.int .i64 k, .int .i64 e, .int .i64 n, .int .i64 l, .slice AD dd cd], .slice A text.length c] w fun r w' => ∃ A' c', r = .returned (.tuple #[.slice A' (splitP k e n text).1.length c', .int .i64 (splitP k e n text).2]) ∧ (splitP k e n text).1.length ≤ c' ∧ (∀ x, Below w'.heap.size w' x → Kd.C PSectorGets.k44 x A' (splitP k e n text).1.length (splitP k e n text).1) ∧ Below w.heap.size w w' := by
  have HT := Aside0.mk hT
  have HBY := Aside0.mk hb
  obtain ⟨R, hR⟩ : ∃ R, R = splitP k e n text := ⟨_, rfl⟩
  rw [← hR]
  have HRR := Aside0.mk hR
  have hro : Fence.wide.round = none := rfl
  have hf2 : Fence.wide.fn 67 := trivial
  have h1 : 1 ≤ 4 := by omega
  clear hT hb hR
  obtain ⟨tn, htn⟩ : ∃ tn, tn = text.length := ⟨_, rfl⟩
  rw [← htn] at hct hfew ⊢
  have HTN := Aside0.mk htn
  clear htn
  refine (callsIn_wide (n := 4)).1 ?_
  refine callsIn_of_wp_marks Try.func28 rfl trivial ?_ hro
  simp only [Try.ntmps28, List.size_toArray, List.length_cons, List.length_nil, Nat.reduceAdd, Nat.reduceSub, Array.replicate_succ, Array.replicate_zero, List.push_toArray, List.append_toArray, List.nil_append, List.cons_append]
  gi_wp2
  obtain ⟨W0, hW0⟩ : ∃ W0, W0 = (((w.alloc (.cells #[.int .i64 k, .int .i64 e, .int .i64 n, .int .i64 l, .slice AD dd cd] 44)).alloc (.cells #[.slice none 0 0] 50)).alloc (.cells #[.int .i64 0] 26)) := ⟨_, rfl⟩
  have x2 : W0.heap[w.heap.size]? = some (.cells #[.int .i64 k, .int .i64 e, .int .i64 n, .int .i64 l, .slice AD dd cd] 44 (0, 0)) := by
    rw [hW0]
    exact (Below.heap_alloc _ _ _ (by simp; omega)).trans ((Below.heap_alloc _ _ _ (by simp)).trans (heap_alloc_new w _))
  have x4 := Boxed.new (w.alloc (.cells #[.int .i64 k, .int .i64 e, .int .i64 n, .int .i64 l, .slice AD dd cd] 44)) 50 (.slice none 0 0)
  have x5 := Boxed.new ((w.alloc (.cells #[.int .i64 k, .int .i64 e, .int .i64 n, .int .i64 l, .slice AD dd cd] 44)).alloc (.cells #[.slice none 0 0] 50)) 26 (.int .i64 0)
  replace x4 := x4.alloc (.cells #[.int .i64 0] 26)
  simp only [World.size_alloc] at x4 x5
  rw [← hW0] at x4 x5 ⊢
  have hB0 : Below w.heap.size w W0 := by
    rw [hW0]
    exact (((Below.refl _ w).alloc (Nat.le_refl _) _).alloc (by simp) _).alloc (by simp; omega) _
  have hs0 : W0.heap.size = w.heap.size + 1 + 1 + 1 := by rw [hW0]; simp
  clear hW0
  obtain ⟨z, hz⟩ : ∃ z, z = w.heap.size := ⟨_, rfl⟩
  rw [← hz] at x2 x4 x5 hB0 hs0 ⊢
  have X2 := Aside0.mk x2
  have X4 := Aside0.mk x4
  have X5 := Aside0.mk x5
  have HB0 := Aside0.mk hB0
  have HS0 := Aside0.mk hs0
  have HZ := Aside0.mk hz
  clear x2 x4 x5 hB0 hs0 hz
  refine ⟨trivial, ((callsIn_wide (n := 3)).2 (needS_any tn (by omega))).mono ?_⟩
  rintro r w5 ⟨rfl, b5⟩
  have HB5 := Aside0.mk b5
  obtain ⟨N, hN⟩ : ∃ N, N = needS tn := ⟨_, rfl⟩
  rw [← hN]
  have HN := Aside0.mk hN
  have hN2 : N ≤ 3000 := by rw [hN]; unfold needS; omega
  have g4 : w5.heap[z + 1]? = some (.cells #[.slice none 0 0] 50 (0, 0)) := (b5.block _ X4.out.lt).trans X4.out
  have g5 : w5.heap[z + 1 + 1]? = some (.cells #[.int .i64 0] 26 (0, 0)) := (b5.block _ X5.out.lt).trans X5.out
  have G4 := Aside0.mk g4
  have G5 := Aside0.mk g5
  have c4 : ∀ o : Obj, (w5.alloc o).cell? ⟨z + 1, 0, none⟩ = some (.slice none 0 0) := fun o => cell_blk ((Below.heap_alloc _ _ _ (blk_lt g4)).trans g4)
  have c5 : ∀ o : Obj, (w5.alloc o).cell? ⟨z + 1 + 1, 0, none⟩ = some (.int .i64 0) := fun o => cell_blk ((Below.heap_alloc _ _ _ (blk_lt g5)).trans g5)
  have f4 : ∀ o : Obj, (w5.alloc o).frozen? ⟨z + 1, 0, none⟩ = false := fun o => frozen_blk ((Below.heap_alloc _ _ _ (blk_lt g4)).trans g4)
  have f5 : ∀ o : Obj, (w5.alloc o).frozen? ⟨z + 1 + 1, 0, none⟩ = false := fun o => frozen_blk ((Below.heap_alloc _ _ _ (blk_lt g5)).trans g5)
  clear b5 hN g4 g5
  by_cases h0 : tn = 0
  · have hN0 : N = 0 := by rw [HN.out, h0]; rfl
    subst hN0
    have HQ := Aside0.mk (show R = ([], 1) by rw [HRR.out]; unfold splitP; rw [if_pos (by rw [← HTN.out]; exact h0)])
    gi_wp2
    refine ⟨.tuple #[.slice none 0 0, .int .i64 1], ?_, none, 0, by rw [HQ.out]; rfl, by rw [HQ.out]; exact Nat.le_refl _, fun x hx => by rw [HQ.out]; exact ⟨rfl, by decide, fun h => absurd h (by decide)⟩, ?_⟩
    · obtain ⟨V, hV⟩ : ∃ V, V = w5.alloc (.cells #[.int .i64 0] 3) := ⟨_, rfl⟩
      have k4 : V.heap[z + 1]? = some (.cells #[.slice none 0 0] 50 (0, 0)) := by rw [hV]; exact (Below.heap_alloc _ _ _ (blk_lt G4.out)).trans G4.out
      have k5 : V.heap[z + 1 + 1]? = some (.cells #[.int .i64 0] 26 (0, 0)) := by rw [hV]; exact (Below.heap_alloc _ _ _ (blk_lt G5.out)).trans G5.out
      have e6' : ((V.setCell ⟨z + 1, 0, none⟩ (.slice none 0 0)).setCell ⟨z + 1 + 1, 0, none⟩ (.int .i64 1)).cell? ⟨z + 1, 0, none⟩ = some (.slice none 0 0) :=
        cell_blk ((Below.heap_setCell _ _ _ _ (by simp)).trans (blk_set k4 0 (.slice none 0 0)))
      have e7' : ((V.setCell ⟨z + 1, 0, none⟩ (.slice none 0 0)).setCell ⟨z + 1 + 1, 0, none⟩ (.int .i64 1)).cell? ⟨z + 1 + 1, 0, none⟩ = some (.int .i64 1) :=
        cell_blk (blk_set (show (V.setCell ⟨z + 1, 0, none⟩ (.slice none 0 0)).heap[z + 1 + 1]? = _ from (Below.heap_setCell _ _ _ _ (by simp)).trans k5) 0 _)
      rw [← hV]
      simp [results, Try.f28, go_sem, e6', e7']
    · rw [← HZ.out]
      exact ((((HB0.out.trans (HB5.out.mono (by have := HS0.out; omega))).alloc (by have := HS0.out; have := HB5.out.size; omega) _).setCell (by simp) _).setCell (by simp; omega) _)
  · have hNp : ((N : Int) == 0) = false := by rw [beq_eq_false_iff_ne]; rw [HN.out]; unfold needS; omega
    have hNb : decide ((65536 : Int) < (N : Int)) = false := decide_eq_false (by omega)
    gi_wp2
    refine ⟨trivial, ((callsIn_wide (n := 3)).2 (chunkv_any A tn c)).mono ?_⟩
    rintro r w' ⟨rfl, rfl⟩
    clear c4 c5 f4 f5
    gi_wp2
    have yn := Boxed.new w5 3 (.int .i64 (N : Int))
    replace yn := ((yn.alloc (.cells #[.slice none 0 0] 50)).alloc (.cells #[.slice A tn c] 22)).alloc (.cells #[.int .i64 48] 3)
    have yo := Boxed.new (w5.alloc (.cells #[.int .i64 (N : Int)] 3)) 50 (.slice none 0 0)
    replace yo := (yo.alloc (.cells #[.slice A tn c] 22)).alloc (.cells #[.int .i64 48] 3)
    have yt := Boxed.new ((w5.alloc (.cells #[.int .i64 (N : Int)] 3)).alloc (.cells #[.slice none 0 0] 50)) 22 (.slice A tn c)
    replace yt := yt.alloc (.cells #[.int .i64 48] 3)
    have yb := Boxed.new (((w5.alloc (.cells #[.int .i64 (N : Int)] 3)).alloc (.cells #[.slice none 0 0] 50)).alloc (.cells #[.slice A tn c] 22)) 3 (.int .i64 48)
    obtain ⟨W1, hW1⟩ : ∃ W1, W1 = (((w5.alloc (.cells #[.int .i64 (N : Int)] 3)).alloc (.cells #[.slice none 0 0] 50)).alloc (.cells #[.slice A tn c] 22)).alloc (.cells #[.int .i64 48] 3) := ⟨_, rfl⟩
    simp only [World.size_alloc] at yo yt yb ⊢
    rw [← hW1] at yn yo yt yb ⊢
    have hs1 : W1.heap.size = w5.heap.size + 1 + 1 + 1 + 1 := by rw [hW1]; simp
    have hb1 : Below w5.heap.size w5 W1 := by rw [hW1]; exact ((((Below.refl _ _).alloc (Nat.le_refl _) _).alloc (by simp) _).alloc (by simp; omega) _).alloc (by simp; omega) _
    clear hW1
    obtain ⟨nb, hnb⟩ : ∃ nb, nb = w5.heap.size := ⟨_, rfl⟩
    rw [← hnb] at yn yo yt yb hs1 hb1 ⊢
    obtain ⟨n₀, hn0⟩ : ∃ n₀, n₀ = W1.heap.size := ⟨_, rfl⟩
    have HNB := Aside0.mk hnb
    have HBW1 := Aside0.mk hb1
    have HN0 := Aside0.mk hn0
    have YN := Aside0.mk yn
    have YO := Aside0.mk yo
    have YT := Aside0.mk yt
    have YB := Aside0.mk yb
    have HNS := Aside0.mk (show n₀ = nb + 1 + 1 + 1 + 1 by rw [hn0, hs1])
    have HZO := Aside0.mk (show z + 3 ≤ nb by have := HS0.out; have := HB5.out.size; omega)
    have HX0 := Aside0.mk (show W1.heap[z]? = some (.cells #[.int .i64 k, .int .i64 e, .int .i64 n, .int .i64 l, .slice AD dd cd] 44 (0, 0)) from (hb1.block _ (by have := HZO.out; omega)).trans ((HB5.out.block _ (blk_lt X2.out)).trans X2.out))
    have HX4 := Aside0.mk (show W1.heap[z + 1]? = some (.cells #[.slice none 0 0] 50 (0, 0)) from (hb1.block _ (by have := HZO.out; omega)).trans G4.out)
    have HX5 := Aside0.mk (show W1.heap[z + 1 + 1]? = some (.cells #[.int .i64 0] 26 (0, 0)) from (hb1.block _ (by have := HZO.out; omega)).trans G5.out)
    have HBZ := Aside0.mk (show Below z w W1 from by
      have h1 := HS0.out
      have h2 := HZO.out
      exact (HB0.out.trans (HB5.out.mono (by omega))).trans (hb1.mono (by omega)))
    clear hnb hb1 hs1 yn yo yt yb hn0
    have hCN : N = (text.length + 47) / 48 := by rw [HN.out, HTN.out]; rfl
    have HCN := Aside0.mk hCN
    clear hCN
    refine wpIn_range_w hro h1 (gf := 67) (lb := #[.pointer (some ⟨nb + 1 + 1, 0, none⟩), .pointer (some ⟨nb + 1 + 1 + 1, 0, none⟩)]) rfl hf2 (enters_of Try.func67 (by kernel_rfl) rfl) (encs := Chu.enc) (b := nb + 1 + 1) YT.out.lt (Kp := KeptC z (nb + 1 + 1) (nb + 1 + 1 + 1)) (Xp := ChuOk A text) (S := fun ys => ys.length = (text.length + 47) / 48) (Sp := fun _ => True) (N := (text.length + 47) / 48)
      (fun l J Jx W hW hJ hJx hY h0 => chunk1_in 3 (by omega) l (nb + 1 + 1) (nb + 1 + 1 + 1) z n₀ text A c (by rw [← HTN.out]; exact hct) (by have := HZO.out; omega) (by have := HZO.out; omega) (by rw [← HTN.out]; exact hfew) J Jx W ?hT hJ hJx hY (by rw [← HTN.out]; exact (hW.block _ YT.out.lt).trans YT.out) ((hW.block _ YB.out.lt).trans YB.out) h0)
      KeptC.trans (KeptC.putObj (by have := HN0.out; have := HZO.out; have := HNS.out; omega) YT.out.lt YB.out.lt) (fun _ => rfl)
      (fun pre W => ((∃ v, Boxed W (nb + 1) 50 v ∧ Kd.R PSectorGets.k44 44 W n₀ (fun q => n₀ ≤ q) v (secsAt k e n text pre.length)) ∧ (n₀ ≤ W.heap.size ∧ ∀ j, j < pre.length → okSec (secOf k e n text j) = true) ∧ W.heap[z]? = some (.cells #[.int .i64 (kindS k pre.length), .int .i64 e, .int .i64 (numS n pre.length), .int .i64 l, .slice AD dd cd] 44 (0, 0)) ∧ W.heap[z + 1]? = some (.cells #[.slice none 0 0] 50 (0, 0)) ∧ W.heap[z + 1 + 1]? = some (.cells #[.int .i64 0] 26 (0, 0)) ∧ W.heap[nb]? = some (.cells #[.int .i64 (N : Int)] 3 (0, 0))) ∧ Below z W1 W)
      (fun c pre W => (c = .ret ∧ Boxed W (z + 1) 50 (.slice none 0 0) ∧ Boxed W (z + 1 + 1) 26 (.int .i64 1) ∧ ∃ j, j < N ∧ okSec (secOf k e n text j) = false) ∧ Below z W1 W)
      ?hI ?hIx ?hIb ?hIxb ?h0 (fun pre x a' W => ChuOk A text pre x W ∧ a' = { tmps := #[.agg #[.int .i64 k, .int .i64 e, .int .i64 n, .int .i64 l, .slice AD dd cd], .slice A tn c, .pointer (some ⟨z, 0, none⟩), undef, .pointer (some ⟨z + 1, 0, none⟩), .pointer (some ⟨z + 1 + 1, 0, none⟩), .pointer (some ⟨nb, 0, none⟩), .pointer (some ⟨nb + 1, 0, none⟩), .slice x.a x.d.length x.d.length, undef, .slice A tn c, .int .i64 (tn : Int), .int .i64 (N : Int), .bool false, .int .i64 (N : Int), .bool false, .bool false, .int .i64 (N : Int), .bool false, .slice A tn c, .func (.func 67) #[] #[.pointer (some ⟨nb + 1 + 1, 0, none⟩), .pointer (some ⟨nb + 1 + 1 + 1, 0, none⟩)], .slice x.a x.d.length x.d.length, undef, undef, undef, undef, undef, undef, undef, undef, undef, undef, undef, undef, undef, undef, undef, undef, undef, undef, undef, undef, undef, undef, undef, undef, undef, undef, undef, undef, undef, undef, undef, undef, undef], defers := [] }) ?hAx ?assign ?body ?done ?stop
    case hT =>
      exact fun x hx => by
        have h1 := HZO.out
        have h2 := HNS.out
        have h3 := HN0.out
        refine Kd.C_below HT.out ?_
        rw [← HZ.out]
        exact HBZ.out.trans ((hW.mono (by omega)).trans hx)
    case hI => exact OwnFrom.and (fun s X Y row hs hg hr => ⟨by obtain ⟨v, h1, h2⟩ := hs.1; exact ⟨v, cells_kept h1 hg (fun r e => (hr r e).2), R_keptrow h2 hg (fun r e => (hr r e).2)⟩, ⟨Nat.le_trans hs.2.1.1 hg.size, hs.2.1.2⟩, cells_kept hs.2.2.1 hg (fun r e => (hr r e).2), cells_kept hs.2.2.2.1 hg (fun r e => (hr r e).2), cells_kept hs.2.2.2.2.1 hg (fun r e => (hr r e).2), cells_kept hs.2.2.2.2.2 hg (fun r e => (hr r e).2)⟩) (ownFrom_below (by have := HN0.out; have := HNS.out; have := HZO.out; omega) (by have := HN0.out; have := HNS.out; have := HZO.out; omega))
    case hIx => exact fun c => OwnFrom.and (fun s X Y row hs hg hr => ⟨hs.1, cells_kept hs.2.1 hg (fun r e => (hr r e).2), cells_kept hs.2.2.1 hg (fun r e => (hr r e).2), hs.2.2.2⟩) (ownFrom_below (by have := HN0.out; have := HNS.out; have := HZO.out; omega) (by have := HN0.out; have := HNS.out; have := HZO.out; omega))
    case hIb =>
      exact fun s X Y hs ho => by
        obtain ⟨⟨⟨v, h1, h2⟩, ⟨h3, h4⟩, h5, h6, h7, h8⟩, h9⟩ := hs
        have q1 := HNS.out
        have q2 := HZO.out
        exact ⟨⟨⟨v, (ho.block _ (blk_lt h1) (by omega)).trans h1, Kd.R_step h2 (fun k hk hlt => ho.block k hlt (by omega))⟩, ⟨Nat.le_trans h3 ho.size, h4⟩, (ho.block _ (blk_lt h5) (by omega)).trans h5, (ho.block _ (blk_lt h6) (by omega)).trans h6, (ho.block _ (blk_lt h7) (by omega)).trans h7, (ho.block _ (blk_lt h8) (by omega)).trans h8⟩, h9.trans (ho.below (by omega) (by have := blk_lt h5; omega))⟩
    case hIxb =>
      exact fun c s X Y hs ho => by
        obtain ⟨⟨h0, h1, h2, h3⟩, h5⟩ := hs
        have q2 := HZO.out
        exact ⟨⟨h0, (ho.block _ (blk_lt h1) (by omega)).trans h1, (ho.block _ (blk_lt h2) (by omega)).trans h2, h3⟩, h5.trans (ho.below (by omega) (by have := blk_lt h2; omega))⟩
    case h0 => exact ⟨⟨⟨_, YO.out, Kd.R_nil _ _ _ _ _⟩, ⟨by rw [HN0.out]; exact Nat.le_refl _, fun j hj => absurd hj (by simp)⟩, HX0.out, HX4.out, HX5.out, YN.out⟩, Below.refl _ _⟩
    case hAx =>
      exact fun pre x a' _ X Y row hs hg hr => hs
    case assign =>
      rintro l pre x W K hI hX hK
      have HX := Aside0.mk hX
      clear hX
      simp only [Chu.enc]
      gi_wp2
      exact hK _ _ (KeepsFrom.refl _ _) ⟨Below.refl _ _, rfl, rfl⟩ hI ⟨HX.out, rfl⟩
    case body =>
      rintro ll pre x a' W hl ⟨rr, hr⟩ ⟨⟨⟨v, hbv, hrv⟩, ⟨hsz, hok⟩, hx5, hx6, hx7, hx8⟩, hbl⟩ ⟨⟨hx1, a, rfl, hxa⟩, rfl⟩ hlt
      have HBV := Aside0.mk hbv
      have HRV := Aside0.mk hrv
      have HSZ := Aside0.mk hsz
      have HOK := Aside0.mk hok
      have HBL := Aside0.mk hbl
      have HR := Aside0.mk hr
      have W5 := Aside0.mk hx5
      have W6 := Aside0.mk hx6
      have W7 := Aside0.mk hx7
      have W8 := Aside0.mk hx8
      obtain ⟨jj, hjj⟩ : ∃ jj, jj = pre.length := ⟨_, rfl⟩
      have HJJ := Aside0.mk hjj
      have HLT := Aside0.mk (show jj < N by rw [hjj, HCN.out]; exact hlt)
      rw [← hjj] at hx1 hxa hrv hok hx5 hlt
      obtain ⟨d, hd⟩ : ∃ d, d = x.d := ⟨_, rfl⟩
      have HD := Aside0.mk (show d = pieceS text jj by rw [hd, hx1]; rfl)
      have hdC : ∀ y, Below z W y → Kd.C (Kd.int .u8) y (some (a.add (48 * jj))) d.length d := fun y hy => by
        refine chu_C (Kd.C_below HT.out ?_) jj (by have := HLT.out; have := HCN.out; omega) (by rw [hd, hx1])
        rw [← HZ.out]
        exact (HBZ.out.trans hbl).trans hy
      rw [← hd, hxa]
      obtain ⟨dn, hdn⟩ : ∃ dn, dn = d.length := ⟨_, rfl⟩
      have HDN := Aside0.mk hdn
      rw [← hdn] at hdC ⊢
      have HDC := Aside0.mk hdC
      have hd48 : dn ≤ 48 := by rw [hdn, HD.out]; unfold pieceS; rw [List.length_take]; omega
      have HD48 := Aside0.mk hd48
      clear hbv hrv hsz hok hbl hr hx1 hx5 hx6 hx7 hx8 hjj hd hdC hlt hdn hd48
      obtain ⟨A0, c0, rfl⟩ := Kd.R_slice HRV.out
      have hlen0 : (secsAt k e n text pre.length).length = jj := by rw [secsAt_len, HJJ.out]
      have HRW := Aside0.mk (show Kd.R PSectorGets.k44 44 W n₀ (fun q => n₀ ≤ q) (.slice A0 jj c0) (secsAt k e n text jj) by have := HRV.out; rw [hlen0] at this; rw [HJJ.out]; rw [HJJ.out] at this; exact this)
      have HBW := Aside0.mk (show Boxed W (nb + 1) 50 (.slice A0 jj c0) by have := HBV.out; rw [hlen0] at this; exact this)
      have HKW := Aside0.mk (show W.heap[z]? = some (.cells #[.int .i64 (kindS k jj), .int .i64 e, .int .i64 (numS n jj), .int .i64 l, .slice AD dd cd] 44 (0, 0)) by have := W5.out; rw [← HJJ.out] at this; exact this)
      have HOKJ := Aside0.mk (show ∀ j, j < jj → okSec (secOf k e n text j) = true by rw [HJJ.out]; exact HOK.out)
      clear hlen0 HRV HBV W5 HOK
      obtain ⟨kj, hkj⟩ : ∃ y, y = kindS k jj := ⟨_, rfl⟩
      obtain ⟨nj, hnj⟩ : ∃ y, y = numS n jj := ⟨_, rfl⟩
      have HKJ := Aside0.mk hkj
      have HNJ := Aside0.mk hnj
      rw [← hkj, ← hnj] at HKW
      clear hkj hnj
      gi_wp2
      refine Go.Reg.region_fork_in (Below W.heap.size W) [.s, .s, .s, .s, .s, .s, .s, .s, .s, .s, .s, .s, .w, .p, .w, .x] [0, 1, 2, 3, 4, 5, 6, 7, 8, 9, 10, 11] 12 14 [13, 14, 15] [12, 13, 15] (by kernel_rfl) (by kernel_rfl) (below_drew1 (Below.refl _ _)) (fun ne => ?_)
      have m0 : ∀ m : Go.Reg.In (Below W.heap.size W), m.w.cell? ⟨z, 0, none⟩ = some (.int .i64 kj) := fun m => cell_blk ((m.h.block _ (blk_lt HKW.out)).trans HKW.out)
      have m1 : ∀ m : Go.Reg.In (Below W.heap.size W), m.w.cell? ⟨z, 1, none⟩ = some (.int .i64 e) := fun m => cell_blk ((m.h.block _ (blk_lt HKW.out)).trans HKW.out)
      have m2 : ∀ m : Go.Reg.In (Below W.heap.size W), m.w.cell? ⟨z, 2, none⟩ = some (.int .i64 nj) := fun m => cell_blk ((m.h.block _ (blk_lt HKW.out)).trans HKW.out)
      have m3 : ∀ m : Go.Reg.In (Below W.heap.size W), m.w.cell? ⟨nb, 0, none⟩ = some (.int .i64 (N : Int)) := fun m => cell_blk ((m.h.block _ (blk_lt W8.out)).trans W8.out)
      have m4 : ∀ m : Go.Reg.In (Below W.heap.size W), m.w.cell? ⟨nb + 1, 0, none⟩ = some (.slice A0 jj c0) := fun m => cell_blk ((m.h.block _ (blk_lt HBW.out)).trans HBW.out)
      dsimp only [Go.Reg.pick, List.filterMap, List.map, List.getD_eq_getElem?_getD]
      simp only [List.getElem?_toArray, List.getElem?_cons_zero, List.getElem?_cons_succ, List.filterMap_cons, List.filterMap_nil, Option.getD_some]
      refine Go.Reg.lex_q 12 _ _ _ _ (by rfl) ?_; simp only [List.take_succ_cons, List.take_zero, List.drop_succ_cons, List.drop_zero]; (repeat (go_big_quiet_step (rfl))); refine wpQuiet_nil ?_
      refine Go.Reg.lex_nil ?_
      clear m0 m1 m2 m3 m4
      have HBD := Aside0.mk (below_drew1 (Below.refl W.heap.size W))
      obtain ⟨lj, hlj⟩ : ∃ lj, lj = wrap64 ((N : Int) - 1 - (jj : Int)) := ⟨_, rfl⟩
      have HLJ := Aside0.mk (show lj = (N : Int) - 1 - (jj : Int) by rw [hlj]; have := HLT.out; unfold wrap64; omega)
      rw [← hlj]
      clear hlj
      refine ⟨?_, ?_, fun o ho => ?_⟩
      · refine Go.Reg.step_w (fun KK hKK => ?_)
        go_wp2_with fail
        have HBZW := Aside0.mk (show Below z W W.drew from HBD.out.mono (by have := blk_lt HKW.out; omega))
        have hcl := clone8 (w := W.drew) (a.add (48 * jj)) dn d (by rw [← HDN.out]; exact HDC.out _ HBZW.out) (by have := HD48.out; have := HDN.out; omega)
        rw [← HDN.out] at hcl
        refine hcl.mono ?_
        clear hcl
        rintro r w6 ⟨v1, rfl, hr1, b1, -⟩
        obtain ⟨A1, c1, rfl⟩ := Kd.R_slice hr1
        rw [← HDN.out] at hr1 ⊢
        have HB6 := Aside0.mk (show Below W.heap.size W w6 from HBD.out.trans b1)
        have HR6 := Aside0.mk (show Kd.R (Kd.int .u8) 5 w6 W.heap.size (fun _ => True) (.slice A1 dn c1) d from hr1)
        clear hr1 b1 HBZW
        go_wp2_with fail
        refine hKK.out _ _ HB6.out ?_
        clear hKK KK
        refine Go.Reg.lex_qp 1 _ _ _ _ _ (by rfl) ?_; simp only [List.take_succ_cons, List.take_zero, List.drop_succ_cons, List.drop_zero]; (repeat (go_big_quiet_step (rfl))); refine wpQuiet_nil ?_
        refine Go.Reg.step_w (fun KK hKK => ?_)
        go_wp2_with fail
        have hal := (Below.refl w6.heap.size w6).alloc (Nat.le_refl _) (.cells #[.int .i64 0, .int .i64 0, .int .i64 0, .int .i64 0, .slice none 0 0] 44)
        have hnb := heap_alloc_new w6 (.cells #[.int .i64 0, .int .i64 0, .int .i64 0, .int .i64 0, .slice none 0 0] 44)
        obtain ⟨w7, hw7⟩ : ∃ w7, w7 = w6.alloc (.cells #[.int .i64 0, .int .i64 0, .int .i64 0, .int .i64 0, .slice none 0 0] 44) := ⟨_, rfl⟩
        rw [← hw7] at hal hnb
        rw [← hw7]
        have HB7 := Aside0.mk (HB6.out.trans (hal.mono HB6.out.size))
        have HR7 := Aside0.mk (Kd.R_below HR6.out hal)
        have hub := HB6.out.size
        obtain ⟨tb, htb⟩ : ∃ tb, tb = w6.heap.size := ⟨_, rfl⟩
        rw [← htb] at hnb hub
        rw [← htb]
        have HTB7 := Aside0.mk hnb
        have HUB := Aside0.mk hub
        clear hw7 hal hnb htb hub
        refine hKK.out _ _ HB7.out ?_
        clear hKK KK
        have e0 : w7.cell? ⟨tb, 0, none⟩ = some (.int .i64 0) := cell_blk HTB7.out
        have e1 : w7.cell? ⟨tb, 1, none⟩ = some (.int .i64 0) := cell_blk HTB7.out
        have e2 : w7.cell? ⟨tb, 2, none⟩ = some (.int .i64 0) := cell_blk HTB7.out
        have e3 : w7.cell? ⟨tb, 3, none⟩ = some (.int .i64 0) := cell_blk HTB7.out
        have e4 : w7.cell? ⟨tb, 4, none⟩ = some (.slice none 0 0) := cell_blk HTB7.out
        have g0 : w7.frozen? ⟨tb, 0, none⟩ = false := frozen_blk HTB7.out
        have g1 : w7.frozen? ⟨tb, 1, none⟩ = false := frozen_blk HTB7.out
        have g2 : w7.frozen? ⟨tb, 2, none⟩ = false := frozen_blk HTB7.out
        have g3 : w7.frozen? ⟨tb, 3, none⟩ = false := frozen_blk HTB7.out
        have g4 : w7.frozen? ⟨tb, 4, none⟩ = false := frozen_blk HTB7.out
        refine Go.Reg.step_x (by rfl) (fun KK hKK => ?_)
        go_wp2_with fail
        refine hKK.out _ _ ?_
        clear hKK KK
        try simp only [Act.put, List.setIfInBounds_toArray, List.set_cons_succ, List.set_cons_zero]
        refine Go.Reg.lex_nil ?_
        clear e0 e1 e2 e3 e4 g0 g1 g2 g3 g4
        obtain ⟨w9, hw9⟩ : ∃ w9, w9 = (((((w7.setCell ⟨tb, 0, none⟩ (.int .i64 kj)).setCell ⟨tb, 1, none⟩ (.int .i64 e)).setCell ⟨tb, 2, none⟩ (.int .i64 nj)).setCell ⟨tb, 3, none⟩ (.int .i64 lj)).setCell ⟨tb, 4, none⟩ (.slice A1 dn c1)) := ⟨_, rfl⟩
        have HTB9 := Aside0.mk (show w9.heap[tb]? = some (.cells #[.int .i64 kj, .int .i64 e, .int .i64 nj, .int .i64 lj, .slice A1 dn c1] 44 (0, 0)) by rw [hw9]; exact five_set HTB7.out _ _ _ _ _)
        have HB9 := Aside0.mk (show Below W.heap.size W w9 by rw [hw9]; exact five_below HB7.out HUB.out _ _ _ _ _)
        have HR9 := Aside0.mk (show Kd.R (Kd.int .u8) 5 w9 W.heap.size (fun _ => True) (.slice A1 dn c1) d by rw [hw9]; exact R_other HR7.out HTB7.out (by decide) (five_but _ _ _ _ _))
        rw [← hw9]
        clear hw9 HTB7 HB7 HR7
        have x0 : w9.cell? ⟨tb, 0, none⟩ = some (.int .i64 kj) := cell_blk HTB9.out
        have x1 : w9.cell? ⟨tb, 1, none⟩ = some (.int .i64 e) := cell_blk HTB9.out
        have x2 : w9.cell? ⟨tb, 2, none⟩ = some (.int .i64 nj) := cell_blk HTB9.out
        have x3 : w9.cell? ⟨tb, 3, none⟩ = some (.int .i64 lj) := cell_blk HTB9.out
        have x4 : w9.cell? ⟨tb, 4, none⟩ = some (.slice A1 dn c1) := cell_blk HTB9.out
        gi_wp2
        clear x0 x1 x2 x3 x4
        have HPE := Aside0.mk (show secOf k e n text jj = ⟨kj, e, nj, lj, d⟩ by
          unfold secOf
          rw [← HKJ.out, ← HNJ.out, ← HD.out, HLJ.out, show needS text.length = N by rw [HN.out, HTN.out]])
        obtain ⟨k1, hk1⟩ : ∃ b, b = secOk kj e nj lj d := ⟨_, rfl⟩
        have hm := PSectorGets.sector_may.calls kj e nj lj A1 c1 d k1 w9 (row_at HR9.out) (by rw [← HDN.out]; exact (Kd.R_reads' HR9.out).2.1) (by rw [hk1]; exact may_plain kj e nj lj d)
        rw [← HDN.out] at hm
        have HOK1 := Aside0.mk (show okSec (secOf k e n text jj) = k1 by rw [HPE.out, hk1]; rfl)
        clear hk1
        refine ⟨trivial, (CallsIn.inRound ll ((callsIn_wide (n := 1)).2 hm)).mono ?_⟩
        clear hm
        rintro r wA ⟨rfl, bA⟩
        have HBA := Aside0.mk (HB9.out.trans (bA.mono HB9.out.size))
        have HTBA := Aside0.mk ((bA.block _ (blk_lt HTB9.out)).trans HTB9.out)
        have HRA := Aside0.mk (Kd.R_below HR9.out bA)
        clear bA HB9 HTB9 HR9
        have hzA : wA.heap[z]? = some (.cells #[.int .i64 kj, .int .i64 e, .int .i64 nj, .int .i64 l, .slice AD dd cd] 44 (0, 0)) := (HBA.out.block _ (blk_lt HKW.out)).trans HKW.out
        have z6 : wA.heap[z + 1]? = some (.cells #[.slice none 0 0] 50 (0, 0)) := (HBA.out.block _ (blk_lt W6.out)).trans W6.out
        have z7 : wA.heap[z + 1 + 1]? = some (.cells #[.int .i64 0] 26 (0, 0)) := (HBA.out.block _ (blk_lt W7.out)).trans W7.out
        have z8 : wA.heap[nb]? = some (.cells #[.int .i64 (N : Int)] 3 (0, 0)) := (HBA.out.block _ (blk_lt W8.out)).trans W8.out
        have zo : wA.heap[nb + 1]? = some (.cells #[.slice A0 jj c0] 50 (0, 0)) := (HBA.out.block _ (blk_lt HBW.out)).trans HBW.out
        have ZA := Aside0.mk hzA
        have Z6 := Aside0.mk z6
        have Z7 := Aside0.mk z7
        have Z8 := Aside0.mk z8
        have ZO := Aside0.mk zo
        cases k1 with
        | false =>
          have y6 : wA.cell? ⟨z + 1, 0, none⟩ = some (.slice none 0 0) := cell_blk z6
          have y7 : wA.cell? ⟨z + 1 + 1, 0, none⟩ = some (.int .i64 0) := cell_blk z7
          have v6 : wA.frozen? ⟨z + 1, 0, none⟩ = false := frozen_blk z6
          have v7 : wA.frozen? ⟨z + 1 + 1, 0, none⟩ = false := frozen_blk z7
          clear hzA z6 z7 z8 zo
          gi_wp2
          refine ⟨(((keeps_below HBA.out).trans (KeepsOthers.setCell _ _ _)).trans (KeepsOthers.setCell _ _ _)).from _, ⟨rfl, ?_, ?_, jj, HLT.out, HOK1.out⟩, ?_⟩
          · exact (Below.heap_setCell _ _ _ _ (by simp)).trans (blk_set Z6.out 0 _)
          · exact blk_set (show (wA.setCell ⟨z + 1, 0, none⟩ (.slice none 0 0)).heap[z + 1 + 1]? = _ from (Below.heap_setCell _ _ _ _ (by simp)).trans Z7.out) 0 _
          · exact (((HBL.out.trans (HBA.out.mono (by have := blk_lt HKW.out; omega))).setCell (by simp) _).setCell (by simp; omega) _)
        | true =>
          have y8 : wA.cell? ⟨nb + 1, 0, none⟩ = some (.slice A0 jj c0) := cell_blk zo
          have y0 : wA.cell? ⟨z, 0, none⟩ = some (.int .i64 kj) := cell_blk hzA
          have v0 : wA.frozen? ⟨z, 0, none⟩ = false := frozen_blk hzA
          have hkp := HOK1.out
          rw [HPE.out] at hkp
          have hkp := ok_parts (show secOk kj e nj lj d = true from hkp)
          clear hzA z6 z7 z8 zo
          by_cases hj0 : jj = 0
          · have hj0b : ((jj : Int) == 0) = true := by rw [beq_iff_eq]; omega
            have HJ0 := Aside0.mk hj0
            have hk2 : wrap64 (kj + 1) = kj + 1 := by unfold wrap64; omega
            have HN2 := Aside0.mk (show wrap64 (nj + 1) = nj + 1 by unfold wrap64; omega)
            clear hj0 hkp
            obtain ⟨wB, hwB⟩ : ∃ wB, wB = (wA.setCell ⟨z, 0, none⟩ (.int .i64 (kj + 1))) := ⟨_, rfl⟩
            have hkeep : ∀ q, q ≠ z → wB.heap[q]? = wA.heap[q]? := fun q hq => by rw [hwB]; exact Below.heap_setCell _ _ _ _ hq
            have hzB : wB.heap[z]? = some (.cells #[.int .i64 (kj + 1), .int .i64 e, .int .i64 nj, .int .i64 l, .slice AD dd cd] 44 (0, 0)) := by
              rw [hwB, blk_set ZA.out 0 _]
              rfl
            have hKB : KeepsOthers wA wB := by rw [hwB]; exact KeepsOthers.setCell _ _ _
            have hBB : Below z wA wB := by rw [hwB]; exact (Below.refl z wA).setCell (p := ⟨z, 0, none⟩) (Nat.le_refl _) _
            have hsB : wB.heap.size = wA.heap.size := by rw [hwB]; simp
            have hnx : kindS k (jj + 1) = kj + 1 := by
              rw [← hk2, HKJ.out, HJ0.out]
              rfl
            have e1 := HZO.out
            have e2 := HNS.out
            have e3 := HSZ.out
            have e4 := HUB.out
            have hne : tb ≠ z ∧ z + 1 ≠ z ∧ z + 1 + 1 ≠ z ∧ nb ≠ z ∧ nb + 1 ≠ z := by omega
            have htB := (hkeep tb hne.1).trans HTBA.out
            have hoB := (hkeep (nb + 1) hne.2.2.2.2).trans ZO.out
            have HZB := Aside0.mk hzB
            have HTB := Aside0.mk htB
            have HOB := Aside0.mk hoB
            have H6B := Aside0.mk ((hkeep (z + 1) hne.2.1).trans Z6.out)
            have H7B := Aside0.mk ((hkeep (z + 1 + 1) hne.2.2.1).trans Z7.out)
            have H8B := Aside0.mk ((hkeep nb hne.2.2.2.1).trans Z8.out)
            have HNX := Aside0.mk hnx
            have HKOB := Aside0.mk ((keeps_below HBA.out).trans hKB)
            have HBZB := Aside0.mk (show Below z W wB from (HBA.out.mono (by omega)).trans hBB)
            have HEB := Aside0.mk (show ∀ q, q < W.heap.size → q ≠ z → wB.heap[q]? = W.heap[q]? from fun q hq hz => (hkeep q hz).trans (HBA.out.block q hq))
            have HSB := Aside0.mk (show n₀ ≤ wB.heap.size by have := HBA.out.size; omega)
            have HDB := Aside0.mk (show Kd.R (Kd.int .u8) 5 wB W.heap.size (fun _ => True) (.slice A1 dn c1) d from Kd.R_mono (Kd.R_step (Kd.R_bound HRA.out) (fun q hq hlt => hkeep q (by have := hq.2.1; omega))) (fun _ _ => trivial))
            have HRB := Aside0.mk (show Kd.R PSectorGets.k44 44 wB n₀ (fun q => n₀ ≤ q) (.slice A0 jj c0) (secsAt k e n text jj) from Kd.R_step (Kd.R_below HRW.out HBA.out) (fun q hq hlt => hkeep q (by omega)))
            have HMB := Aside0.mk (show PSectorGets.k44.M wB n₀ (fun q => n₀ ≤ q ∧ some q ≠ (Value.slice A0 jj c0).ownBlock) (secOf k e n text jj) [.int .i64 kj, .int .i64 e, .int .i64 nj, .int .i64 lj, .slice A1 dn c1] by
              rw [HPE.out]
              refine PSectorGets.k44_mkM wB n₀ _ ⟨kj, e, nj, lj, d⟩ ?_
              refine Kd.R_mono (Kd.R_bound (Kd.R_lower HDB.out (by omega))) (fun q hq => ⟨hq.2.1, ?_⟩)
              obtain ⟨_, _, _, q2, hq2, cells, hc⟩ := hq
              obtain rfl : q2 = 5 := by simpa [Kd.int, Kd.scalar] using hq2
              exact Kd.R_ne HRB.out hc (by decide))
            have hl10 : ((secsAt k e n text jj).length + 1) * 56 ≤ 140737488355328 := by rw [secsAt_len]; have := HLT.out; omega
            have p8 : wB.cell? ⟨nb + 1, 0, none⟩ = some (.slice A0 jj c0) := cell_blk hoB
            have x0 : wB.cell? ⟨tb, 0, none⟩ = some (.int .i64 kj) := cell_blk htB
            have x1 : wB.cell? ⟨tb, 1, none⟩ = some (.int .i64 e) := cell_blk htB
            have x2 : wB.cell? ⟨tb, 2, none⟩ = some (.int .i64 nj) := cell_blk htB
            have x3 : wB.cell? ⟨tb, 3, none⟩ = some (.int .i64 lj) := cell_blk htB
            have x4 : wB.cell? ⟨tb, 4, none⟩ = some (.slice A1 dn c1) := cell_blk htB
            rw [hwB] at p8 x0 x1 x2 x3 x4
            clear hkeep hzB hKB hBB  hnx e1 e2 e3 e4 hne htB hoB
            gi_wp2_with (gi_at_builtin; refine Hid.out ?_)
            refine Lib.hid ?_
            rw [← hwB, ← hsB]
            clear hwB hsB
            refine R_append_in PSectorGets.k44 (w0 := wB) (W := wB) n₀ rfl (.tmp 46) (.tmp 48) 50 44 (.agg #[(.int .i64 0), (.int .i64 0), (.int .i64 0), (.int .i64 0), (.slice none 0 0)]) 56 rfl Try.underlying50 PSectorGets.info44 rfl (by decide) (by omega) (.slice A0 jj c0) (secsAt k e n text jj) (secOf k e n text jj) [.int .i64 kj, .int .i64 e, .int .i64 nj, .int .i64 lj, .slice A1 dn c1] (fun q => n₀ ≤ q) (fun q => n₀ ≤ q ∧ some q ≠ (Value.slice A0 jj c0).ownBlock) rfl rfl HMB.out (fun q hq => hq) (fun q hq => Nat.le_trans HSB.out hq) HRB.out (Below.refl _ _) HSB.out hl10 ?_
            clear hl10 p8 x0 x1 x2 x3 x4
            intro v2 w11 hr11 hb11 hg11 hat11
            obtain ⟨A3, c3, rfl⟩ := Kd.R_slice hr11
            have hlen : (secsAt k e n text jj ++ [secOf k e n text jj]).length = jj + 1 := by rw [List.length_append, secsAt_len]; rfl
            rw [hlen] at hr11 ⊢
            clear hlen
            have e1 := HZO.out
            have e2 := HNS.out
            have e3 := HSZ.out
            have e4 := HSB.out
            have hbo : w11.heap[nb + 1]? = some (.cells #[.slice A0 jj c0] 50 (0, 0)) := (hb11.block (nb + 1) (by omega)).trans HOB.out
            have hbz : w11.heap[z]? = some (.cells #[.int .i64 (kj + 1), .int .i64 e, .int .i64 nj, .int .i64 l, .slice AD dd cd] 44 (0, 0)) := (hb11.block z (by omega)).trans HZB.out
            have o1 : w11.cell? ⟨nb + 1, 0, none⟩ = some (.slice A0 jj c0) := cell_blk hbo
            have of1 : w11.frozen? ⟨nb + 1, 0, none⟩ = false := frozen_blk hbo
            have u2 : ∀ u, (w11.setCell ⟨nb + 1, 0, none⟩ u).cell? ⟨z, 2, none⟩ = some (.int .i64 nj) := fun u => cell_blk ((Below.heap_setCell _ _ _ _ (by show z ≠ nb + 1; omega)).trans hbz)
            have uf2 : ∀ u, (w11.setCell ⟨nb + 1, 0, none⟩ u).frozen? ⟨z, 2, none⟩ = false := fun u => frozen_blk ((Below.heap_setCell _ _ _ _ (by show z ≠ nb + 1; omega)).trans hbz)
            have HBO := Aside0.mk hbo
            have HBZ2 := Aside0.mk hbz
            have HR11 := Aside0.mk hr11
            have HB11 := Aside0.mk hb11
            have HKO := Aside0.mk (HKOB.out.trans (KeepsOthers.of_grownBy hg11 (fun q o eq hq => by
              obtain ⟨inner, hown⟩ := Kd.R_own HRB.out
              obtain ⟨cells, hcl⟩ := own_typed hown q eq
              rw [hcl] at hq
              cases hq
              rfl)))
            have hw2 := HN2.out
            clear hbo hbz hr11 hb11 hg11 hat11 e1 e2 e3 e4
            gi_wp2
            obtain ⟨wf, hwf⟩ : ∃ wf, wf = (w11.setCell ⟨nb + 1, 0, none⟩ (.slice A3 (jj + 1) c3)).setCell ⟨z, 2, none⟩ (.int .i64 (nj + 1)) := ⟨_, rfl⟩
            have q1 := HZO.out
            have q2 := HNS.out
            have q3 := HSZ.out
            have hpl : (pre ++ [x]).length = jj + 1 := by rw [List.length_append, ← HJJ.out]; rfl
            have hf : ∀ q, q < n₀ → q ≠ nb + 1 → q ≠ z → wf.heap[q]? = W.heap[q]? := fun q hq hn1 hn2 => by
              rw [hwf, Below.heap_setCell _ _ _ _ (show q ≠ z from hn2), Below.heap_setCell _ _ _ _ (show q ≠ nb + 1 from hn1), HB11.out.block q hq]
              exact HEB.out q (by omega) hn2
            have hKF : KeepsOthers W wf := by rw [hwf]; exact (HKO.out.trans (KeepsOthers.setCell _ _ _)).trans (KeepsOthers.setCell _ _ _)
            have hBF : Below z W wf := by
              rw [hwf]
              exact ((HBZB.out.trans (HB11.out.mono (by omega))).setCell (p := ⟨nb + 1, 0, none⟩) (by show z ≤ nb + 1; omega) _).setCell (p := ⟨z, 2, none⟩) (Nat.le_refl _) _
            have hbF : wf.heap[nb + 1]? = some (.cells #[.slice A3 (jj + 1) c3] 50 (0, 0)) := by
              rw [hwf]
              exact (Below.heap_setCell _ _ _ _ (by show nb + 1 ≠ z; omega)).trans (blk_set HBO.out 0 _)
            have hzF : wf.heap[z]? = some (.cells #[.int .i64 (kindS k (jj + 1)), .int .i64 e, .int .i64 (numS n (jj + 1)), .int .i64 l, .slice AD dd cd] 44 (0, 0)) := by
              have h0 : (w11.setCell ⟨nb + 1, 0, none⟩ (.slice A3 (jj + 1) c3)).heap[z]? = some (.cells #[.int .i64 (kj + 1), .int .i64 e, .int .i64 nj, .int .i64 l, .slice AD dd cd] 44 (0, 0)) := (Below.heap_setCell _ _ _ _ (by show z ≠ nb + 1; omega)).trans HBZ2.out
              rw [hwf, blk_set h0 2 _, HNX.out, show numS n (jj + 1) = nj + 1 from by show wrap64 (numS n jj + 1) = _; rw [← HNJ.out]; exact HN2.out]
              rfl
            have hrF : Kd.R PSectorGets.k44 44 wf n₀ (fun q => n₀ ≤ q) (.slice A3 (jj + 1) c3) (secsAt k e n text (jj + 1)) := by
              rw [hwf, secsAt_succ]
              exact Kd.R_far (p := ⟨z, 2, none⟩) (Kd.R_far (p := ⟨nb + 1, 0, none⟩) HR11.out (fun q hq => by show q ≠ nb + 1; omega) _) (fun q hq => by show q ≠ z; omega) _
            have hsF : n₀ ≤ wf.heap.size := by
              rw [hwf]
              simp only [World.size_setCell]
              have := HB11.out.size
              have := HSB.out
              omega
            rw [← hwf]
            refine ⟨hKF.from _, ⟨hBF, hf _ (by omega) (by omega) (by omega), hf _ (by omega) (by omega) (by omega)⟩, ⟨⟨_, hbF, ?_⟩, ⟨hsF, ?_⟩, ?_, ?_, ?_, ?_⟩, HBL.out.trans hBF⟩
            · rw [hpl]
              exact hrF
            · intro j hj
              rw [hpl] at hj
              by_cases hjq : j = jj
              · rw [hjq]; exact HOK1.out
              · exact HOKJ.out j (by omega)
            · rw [hpl]
              exact hzF
            · exact (hf _ (by omega) (by omega) (by omega)).trans W6.out
            · exact (hf _ (by omega) (by omega) (by omega)).trans W7.out
            · exact (hf _ (by omega) (by omega) (by omega)).trans W8.out
          · have hj0b : ((jj : Int) == 0) = false := by rw [beq_eq_false_iff_ne]; omega
            have HJ0 := Aside0.mk hj0
            have HN2 := Aside0.mk (show wrap64 (nj + 1) = nj + 1 by unfold wrap64; omega)
            clear hj0 hkp
            obtain ⟨wB, hwB⟩ : ∃ wB, wB = wA := ⟨_, rfl⟩
            have hkeep : ∀ q, q ≠ z → wB.heap[q]? = wA.heap[q]? := fun q hq => by rw [hwB]
            have hzB : wB.heap[z]? = some (.cells #[.int .i64 kj, .int .i64 e, .int .i64 nj, .int .i64 l, .slice AD dd cd] 44 (0, 0)) := by
              rw [hwB]
              exact ZA.out
            have hKB : KeepsOthers wA wB := by rw [hwB]; exact keeps_below (Below.refl _ _)
            have hBB : Below z wA wB := by rw [hwB]; exact Below.refl _ _
            have hsB : wB.heap.size = wA.heap.size := by rw [hwB]
            have hnx : kindS k (jj + 1) = kj := by
              rw [HKJ.out]
              unfold kindS
              rw [if_neg (by omega), if_neg HJ0.out]
            have e1 := HZO.out
            have e2 := HNS.out
            have e3 := HSZ.out
            have e4 := HUB.out
            have hne : tb ≠ z ∧ z + 1 ≠ z ∧ z + 1 + 1 ≠ z ∧ nb ≠ z ∧ nb + 1 ≠ z := by omega
            have htB := (hkeep tb hne.1).trans HTBA.out
            have hoB := (hkeep (nb + 1) hne.2.2.2.2).trans ZO.out
            have HZB := Aside0.mk hzB
            have HTB := Aside0.mk htB
            have HOB := Aside0.mk hoB
            have H6B := Aside0.mk ((hkeep (z + 1) hne.2.1).trans Z6.out)
            have H7B := Aside0.mk ((hkeep (z + 1 + 1) hne.2.2.1).trans Z7.out)
            have H8B := Aside0.mk ((hkeep nb hne.2.2.2.1).trans Z8.out)
            have HNX := Aside0.mk hnx
            have HKOB := Aside0.mk ((keeps_below HBA.out).trans hKB)
            have HBZB := Aside0.mk (show Below z W wB from (HBA.out.mono (by omega)).trans hBB)
            have HEB := Aside0.mk (show ∀ q, q < W.heap.size → q ≠ z → wB.heap[q]? = W.heap[q]? from fun q hq hz => (hkeep q hz).trans (HBA.out.block q hq))
            have HSB := Aside0.mk (show n₀ ≤ wB.heap.size by have := HBA.out.size; omega)
            have HDB := Aside0.mk (show Kd.R (Kd.int .u8) 5 wB W.heap.size (fun _ => True) (.slice A1 dn c1) d from Kd.R_mono (Kd.R_step (Kd.R_bound HRA.out) (fun q hq hlt => hkeep q (by have := hq.2.1; omega))) (fun _ _ => trivial))
            have HRB := Aside0.mk (show Kd.R PSectorGets.k44 44 wB n₀ (fun q => n₀ ≤ q) (.slice A0 jj c0) (secsAt k e n text jj) from Kd.R_step (Kd.R_below HRW.out HBA.out) (fun q hq hlt => hkeep q (by omega)))
            have HMB := Aside0.mk (show PSectorGets.k44.M wB n₀ (fun q => n₀ ≤ q ∧ some q ≠ (Value.slice A0 jj c0).ownBlock) (secOf k e n text jj) [.int .i64 kj, .int .i64 e, .int .i64 nj, .int .i64 lj, .slice A1 dn c1] by
              rw [HPE.out]
              refine PSectorGets.k44_mkM wB n₀ _ ⟨kj, e, nj, lj, d⟩ ?_
              refine Kd.R_mono (Kd.R_bound (Kd.R_lower HDB.out (by omega))) (fun q hq => ⟨hq.2.1, ?_⟩)
              obtain ⟨_, _, _, q2, hq2, cells, hc⟩ := hq
              obtain rfl : q2 = 5 := by simpa [Kd.int, Kd.scalar] using hq2
              exact Kd.R_ne HRB.out hc (by decide))
            have hl10 : ((secsAt k e n text jj).length + 1) * 56 ≤ 140737488355328 := by rw [secsAt_len]; have := HLT.out; omega
            have p8 : wB.cell? ⟨nb + 1, 0, none⟩ = some (.slice A0 jj c0) := cell_blk hoB
            have x0 : wB.cell? ⟨tb, 0, none⟩ = some (.int .i64 kj) := cell_blk htB
            have x1 : wB.cell? ⟨tb, 1, none⟩ = some (.int .i64 e) := cell_blk htB
            have x2 : wB.cell? ⟨tb, 2, none⟩ = some (.int .i64 nj) := cell_blk htB
            have x3 : wB.cell? ⟨tb, 3, none⟩ = some (.int .i64 lj) := cell_blk htB
            have x4 : wB.cell? ⟨tb, 4, none⟩ = some (.slice A1 dn c1) := cell_blk htB
            subst hwB
            clear y0 v0 y8
            clear hkeep hzB hKB hBB hsB hnx e1 e2 e3 e4 hne htB hoB
            gi_wp2_with (gi_at_builtin; refine Hid.out ?_)
            refine Lib.hid ?_
            refine R_append_in PSectorGets.k44 (w0 := wB) (W := wB) n₀ rfl (.tmp 46) (.tmp 48) 50 44 (.agg #[(.int .i64 0), (.int .i64 0), (.int .i64 0), (.int .i64 0), (.slice none 0 0)]) 56 rfl Try.underlying50 PSectorGets.info44 rfl (by decide) (by omega) (.slice A0 jj c0) (secsAt k e n text jj) (secOf k e n text jj) [.int .i64 kj, .int .i64 e, .int .i64 nj, .int .i64 lj, .slice A1 dn c1] (fun q => n₀ ≤ q) (fun q => n₀ ≤ q ∧ some q ≠ (Value.slice A0 jj c0).ownBlock) rfl rfl HMB.out (fun q hq => hq) (fun q hq => Nat.le_trans HSB.out hq) HRB.out (Below.refl _ _) HSB.out hl10 ?_
            clear hl10 p8 x0 x1 x2 x3 x4
            intro v2 w11 hr11 hb11 hg11 hat11
            obtain ⟨A3, c3, rfl⟩ := Kd.R_slice hr11
            have hlen : (secsAt k e n text jj ++ [secOf k e n text jj]).length = jj + 1 := by rw [List.length_append, secsAt_len]; rfl
            rw [hlen] at hr11 ⊢
            clear hlen
            have e1 := HZO.out
            have e2 := HNS.out
            have e3 := HSZ.out
            have e4 := HSB.out
            have hbo : w11.heap[nb + 1]? = some (.cells #[.slice A0 jj c0] 50 (0, 0)) := (hb11.block (nb + 1) (by omega)).trans HOB.out
            have hbz : w11.heap[z]? = some (.cells #[.int .i64 kj, .int .i64 e, .int .i64 nj, .int .i64 l, .slice AD dd cd] 44 (0, 0)) := (hb11.block z (by omega)).trans HZB.out
            have o1 : w11.cell? ⟨nb + 1, 0, none⟩ = some (.slice A0 jj c0) := cell_blk hbo
            have of1 : w11.frozen? ⟨nb + 1, 0, none⟩ = false := frozen_blk hbo
            have u2 : ∀ u, (w11.setCell ⟨nb + 1, 0, none⟩ u).cell? ⟨z, 2, none⟩ = some (.int .i64 nj) := fun u => cell_blk ((Below.heap_setCell _ _ _ _ (by show z ≠ nb + 1; omega)).trans hbz)
            have uf2 : ∀ u, (w11.setCell ⟨nb + 1, 0, none⟩ u).frozen? ⟨z, 2, none⟩ = false := fun u => frozen_blk ((Below.heap_setCell _ _ _ _ (by show z ≠ nb + 1; omega)).trans hbz)
            have HBO := Aside0.mk hbo
            have HBZ2 := Aside0.mk hbz
            have HR11 := Aside0.mk hr11
            have HB11 := Aside0.mk hb11
            have HKO := Aside0.mk (HKOB.out.trans (KeepsOthers.of_grownBy hg11 (fun q o eq hq => by
              obtain ⟨inner, hown⟩ := Kd.R_own HRB.out
              obtain ⟨cells, hcl⟩ := own_typed hown q eq
              rw [hcl] at hq
              cases hq
              rfl)))
            have hw2 := HN2.out
            clear hbo hbz hr11 hb11 hg11 hat11 e1 e2 e3 e4
            gi_wp2
            obtain ⟨wf, hwf⟩ : ∃ wf, wf = (w11.setCell ⟨nb + 1, 0, none⟩ (.slice A3 (jj + 1) c3)).setCell ⟨z, 2, none⟩ (.int .i64 (nj + 1)) := ⟨_, rfl⟩
            have q1 := HZO.out
            have q2 := HNS.out
            have q3 := HSZ.out
            have hpl : (pre ++ [x]).length = jj + 1 := by rw [List.length_append, ← HJJ.out]; rfl
            have hf : ∀ q, q < n₀ → q ≠ nb + 1 → q ≠ z → wf.heap[q]? = W.heap[q]? := fun q hq hn1 hn2 => by
              rw [hwf, Below.heap_setCell _ _ _ _ (show q ≠ z from hn2), Below.heap_setCell _ _ _ _ (show q ≠ nb + 1 from hn1), HB11.out.block q hq]
              exact HEB.out q (by omega) hn2
            have hKF : KeepsOthers W wf := by rw [hwf]; exact (HKO.out.trans (KeepsOthers.setCell _ _ _)).trans (KeepsOthers.setCell _ _ _)
            have hBF : Below z W wf := by
              rw [hwf]
              exact ((HBZB.out.trans (HB11.out.mono (by omega))).setCell (p := ⟨nb + 1, 0, none⟩) (by show z ≤ nb + 1; omega) _).setCell (p := ⟨z, 2, none⟩) (Nat.le_refl _) _
            have hbF : wf.heap[nb + 1]? = some (.cells #[.slice A3 (jj + 1) c3] 50 (0, 0)) := by
              rw [hwf]
              exact (Below.heap_setCell _ _ _ _ (by show nb + 1 ≠ z; omega)).trans (blk_set HBO.out 0 _)
            have hzF : wf.heap[z]? = some (.cells #[.int .i64 (kindS k (jj + 1)), .int .i64 e, .int .i64 (numS n (jj + 1)), .int .i64 l, .slice AD dd cd] 44 (0, 0)) := by
              have h0 : (w11.setCell ⟨nb + 1, 0, none⟩ (.slice A3 (jj + 1) c3)).heap[z]? = some (.cells #[.int .i64 kj, .int .i64 e, .int .i64 nj, .int .i64 l, .slice AD dd cd] 44 (0, 0)) := (Below.heap_setCell _ _ _ _ (by show z ≠ nb + 1; omega)).trans HBZ2.out
              rw [hwf, blk_set h0 2 _, HNX.out, show numS n (jj + 1) = nj + 1 from by show wrap64 (numS n jj + 1) = _; rw [← HNJ.out]; exact HN2.out]
              rfl
            have hrF : Kd.R PSectorGets.k44 44 wf n₀ (fun q => n₀ ≤ q) (.slice A3 (jj + 1) c3) (secsAt k e n text (jj + 1)) := by
              rw [hwf, secsAt_succ]
              exact Kd.R_far (p := ⟨z, 2, none⟩) (Kd.R_far (p := ⟨nb + 1, 0, none⟩) HR11.out (fun q hq => by show q ≠ nb + 1; omega) _) (fun q hq => by show q ≠ z; omega) _
            have hsF : n₀ ≤ wf.heap.size := by
              rw [hwf]
              simp only [World.size_setCell]
              have := HB11.out.size
              have := HSB.out
              omega
            rw [← hwf]
            refine ⟨hKF.from _, ⟨hBF, hf _ (by omega) (by omega) (by omega), hf _ (by omega) (by omega) (by omega)⟩, ⟨⟨_, hbF, ?_⟩, ⟨hsF, ?_⟩, ?_, ?_, ?_, ?_⟩, HBL.out.trans hBF⟩
            · rw [hpl]
              exact hrF
            · intro j hj
              rw [hpl] at hj
              by_cases hjq : j = jj
              · rw [hjq]; exact HOK1.out
              · exact HOKJ.out j (by omega)
            · rw [hpl]
              exact hzF
            · exact (hf _ (by omega) (by omega) (by omega)).trans W6.out
            · exact (hf _ (by omega) (by omega) (by omega)).trans W7.out
            · exact (hf _ (by omega) (by omega) (by omega)).trans W8.out
      · refine Go.Reg.step_w (fun KK hKK => ?_)
        go_wp2_with fail
        obtain ⟨w6, hw6⟩ : ∃ w6, w6 = (W.alloc (.cells #[.int .i64 0, .int .i64 0, .int .i64 0, .int .i64 0, .slice none 0 0] 44)).drew := ⟨_, rfl⟩
        have hal : Below W.drew.heap.size W.drew w6 := by rw [hw6]; exact (Below.refl W.drew.heap.size W.drew).alloc (Nat.le_refl _) (.cells #[.int .i64 0, .int .i64 0, .int .i64 0, .int .i64 0, .slice none 0 0] 44)
        have hnb : w6.heap[W.heap.size]? = some (.cells #[.int .i64 0, .int .i64 0, .int .i64 0, .int .i64 0, .slice none 0 0] 44 (0, 0)) := by rw [hw6]; exact heap_alloc_new W.drew (.cells #[.int .i64 0, .int .i64 0, .int .i64 0, .int .i64 0, .slice none 0 0] 44)
        rw [← hw6]
        have HB6 := Aside0.mk (show Below W.heap.size W w6 from HBD.out.trans hal)
        obtain ⟨tb, htb⟩ : ∃ tb, tb = W.heap.size := ⟨_, rfl⟩
        have HUB := Aside0.mk (show W.heap.size ≤ tb by omega)
        rw [← htb] at hnb
        rw [← htb]
        have HTB6 := Aside0.mk hnb
        clear hw6 hal hnb htb
        refine hKK.out _ _ HB6.out ?_
        clear hKK KK
        refine Go.Reg.step_w (fun KK hKK => ?_)
        go_wp2_with fail
        have HBZW := Aside0.mk (show Below z W w6 from HB6.out.mono (by have := blk_lt HKW.out; omega))
        have hcl := clone8 (w := w6) (a.add (48 * jj)) dn d (by rw [← HDN.out]; exact HDC.out _ HBZW.out) (by have := HD48.out; have := HDN.out; omega)
        rw [← HDN.out] at hcl
        refine hcl.mono ?_
        clear hcl
        rintro r w7 ⟨v1, rfl, hr1, b1, -⟩
        obtain ⟨A1, c1, rfl⟩ := Kd.R_slice hr1
        rw [← HDN.out] at hr1 ⊢
        have HB7 := Aside0.mk (HB6.out.trans (b1.mono HB6.out.size))
        have HR7 := Aside0.mk (show Kd.R (Kd.int .u8) 5 w7 W.heap.size (fun _ => True) (.slice A1 dn c1) d from Kd.R_lower hr1 HB6.out.size)
        have HTB7 := Aside0.mk ((b1.block _ (blk_lt HTB6.out)).trans HTB6.out)
        clear hr1 b1 HBZW
        go_wp2_with fail
        refine hKK.out _ _ HB7.out ?_
        clear hKK KK
        refine Go.Reg.lex_qp 1 _ _ _ _ _ (by rfl) ?_; simp only [List.take_succ_cons, List.take_zero, List.drop_succ_cons, List.drop_zero]; (repeat (go_big_quiet_step (rfl))); refine wpQuiet_nil ?_
        have e0 : w7.cell? ⟨tb, 0, none⟩ = some (.int .i64 0) := cell_blk HTB7.out
        have e1 : w7.cell? ⟨tb, 1, none⟩ = some (.int .i64 0) := cell_blk HTB7.out
        have e2 : w7.cell? ⟨tb, 2, none⟩ = some (.int .i64 0) := cell_blk HTB7.out
        have e3 : w7.cell? ⟨tb, 3, none⟩ = some (.int .i64 0) := cell_blk HTB7.out
        have e4 : w7.cell? ⟨tb, 4, none⟩ = some (.slice none 0 0) := cell_blk HTB7.out
        have g0 : w7.frozen? ⟨tb, 0, none⟩ = false := frozen_blk HTB7.out
        have g1 : w7.frozen? ⟨tb, 1, none⟩ = false := frozen_blk HTB7.out
        have g2 : w7.frozen? ⟨tb, 2, none⟩ = false := frozen_blk HTB7.out
        have g3 : w7.frozen? ⟨tb, 3, none⟩ = false := frozen_blk HTB7.out
        have g4 : w7.frozen? ⟨tb, 4, none⟩ = false := frozen_blk HTB7.out
        refine Go.Reg.step_x (by rfl) (fun KK hKK => ?_)
        go_wp2_with fail
        refine hKK.out _ _ ?_
        clear hKK KK
        try simp only [Act.put, List.setIfInBounds_toArray, List.set_cons_succ, List.set_cons_zero]
        refine Go.Reg.lex_nil ?_
        clear e0 e1 e2 e3 e4 g0 g1 g2 g3 g4
        obtain ⟨w9, hw9⟩ : ∃ w9, w9 = (((((w7.setCell ⟨tb, 0, none⟩ (.int .i64 kj)).setCell ⟨tb, 1, none⟩ (.int .i64 e)).setCell ⟨tb, 2, none⟩ (.int .i64 nj)).setCell ⟨tb, 3, none⟩ (.int .i64 lj)).setCell ⟨tb, 4, none⟩ (.slice A1 dn c1)) := ⟨_, rfl⟩
        have HTB9 := Aside0.mk (show w9.heap[tb]? = some (.cells #[.int .i64 kj, .int .i64 e, .int .i64 nj, .int .i64 lj, .slice A1 dn c1] 44 (0, 0)) by rw [hw9]; exact five_set HTB7.out _ _ _ _ _)
        have HB9 := Aside0.mk (show Below W.heap.size W w9 by rw [hw9]; exact five_below HB7.out HUB.out _ _ _ _ _)
        have HR9 := Aside0.mk (show Kd.R (Kd.int .u8) 5 w9 W.heap.size (fun _ => True) (.slice A1 dn c1) d by rw [hw9]; exact R_other HR7.out HTB7.out (by decide) (five_but _ _ _ _ _))
        rw [← hw9]
        clear hw9 HTB7 HB7 HR7
        have x0 : w9.cell? ⟨tb, 0, none⟩ = some (.int .i64 kj) := cell_blk HTB9.out
        have x1 : w9.cell? ⟨tb, 1, none⟩ = some (.int .i64 e) := cell_blk HTB9.out
        have x2 : w9.cell? ⟨tb, 2, none⟩ = some (.int .i64 nj) := cell_blk HTB9.out
        have x3 : w9.cell? ⟨tb, 3, none⟩ = some (.int .i64 lj) := cell_blk HTB9.out
        have x4 : w9.cell? ⟨tb, 4, none⟩ = some (.slice A1 dn c1) := cell_blk HTB9.out
        gi_wp2
        clear x0 x1 x2 x3 x4
        have HPE := Aside0.mk (show secOf k e n text jj = ⟨kj, e, nj, lj, d⟩ by
          unfold secOf
          rw [← HKJ.out, ← HNJ.out, ← HD.out, HLJ.out, show needS text.length = N by rw [HN.out, HTN.out]])
        obtain ⟨k1, hk1⟩ : ∃ b, b = secOk kj e nj lj d := ⟨_, rfl⟩
        have hm := PSectorGets.sector_may.calls kj e nj lj A1 c1 d k1 w9 (row_at HR9.out) (by rw [← HDN.out]; exact (Kd.R_reads' HR9.out).2.1) (by rw [hk1]; exact may_plain kj e nj lj d)
        rw [← HDN.out] at hm
        have HOK1 := Aside0.mk (show okSec (secOf k e n text jj) = k1 by rw [HPE.out, hk1]; rfl)
        clear hk1
        refine ⟨trivial, (CallsIn.inRound ll ((callsIn_wide (n := 1)).2 hm)).mono ?_⟩
        clear hm
        rintro r wA ⟨rfl, bA⟩
        have HBA := Aside0.mk (HB9.out.trans (bA.mono HB9.out.size))
        have HTBA := Aside0.mk ((bA.block _ (blk_lt HTB9.out)).trans HTB9.out)
        have HRA := Aside0.mk (Kd.R_below HR9.out bA)
        clear bA HB9 HTB9 HR9
        have hzA : wA.heap[z]? = some (.cells #[.int .i64 kj, .int .i64 e, .int .i64 nj, .int .i64 l, .slice AD dd cd] 44 (0, 0)) := (HBA.out.block _ (blk_lt HKW.out)).trans HKW.out
        have z6 : wA.heap[z + 1]? = some (.cells #[.slice none 0 0] 50 (0, 0)) := (HBA.out.block _ (blk_lt W6.out)).trans W6.out
        have z7 : wA.heap[z + 1 + 1]? = some (.cells #[.int .i64 0] 26 (0, 0)) := (HBA.out.block _ (blk_lt W7.out)).trans W7.out
        have z8 : wA.heap[nb]? = some (.cells #[.int .i64 (N : Int)] 3 (0, 0)) := (HBA.out.block _ (blk_lt W8.out)).trans W8.out
        have zo : wA.heap[nb + 1]? = some (.cells #[.slice A0 jj c0] 50 (0, 0)) := (HBA.out.block _ (blk_lt HBW.out)).trans HBW.out
        have ZA := Aside0.mk hzA
        have Z6 := Aside0.mk z6
        have Z7 := Aside0.mk z7
        have Z8 := Aside0.mk z8
        have ZO := Aside0.mk zo
        cases k1 with
        | false =>
          have y6 : wA.cell? ⟨z + 1, 0, none⟩ = some (.slice none 0 0) := cell_blk z6
          have y7 : wA.cell? ⟨z + 1 + 1, 0, none⟩ = some (.int .i64 0) := cell_blk z7
          have v6 : wA.frozen? ⟨z + 1, 0, none⟩ = false := frozen_blk z6
          have v7 : wA.frozen? ⟨z + 1 + 1, 0, none⟩ = false := frozen_blk z7
          clear hzA z6 z7 z8 zo
          gi_wp2
          refine ⟨(((keeps_below HBA.out).trans (KeepsOthers.setCell _ _ _)).trans (KeepsOthers.setCell _ _ _)).from _, ⟨rfl, ?_, ?_, jj, HLT.out, HOK1.out⟩, ?_⟩
          · exact (Below.heap_setCell _ _ _ _ (by simp)).trans (blk_set Z6.out 0 _)
          · exact blk_set (show (wA.setCell ⟨z + 1, 0, none⟩ (.slice none 0 0)).heap[z + 1 + 1]? = _ from (Below.heap_setCell _ _ _ _ (by simp)).trans Z7.out) 0 _
          · exact (((HBL.out.trans (HBA.out.mono (by have := blk_lt HKW.out; omega))).setCell (by simp) _).setCell (by simp; omega) _)
        | true =>
          have y8 : wA.cell? ⟨nb + 1, 0, none⟩ = some (.slice A0 jj c0) := cell_blk zo
          have y0 : wA.cell? ⟨z, 0, none⟩ = some (.int .i64 kj) := cell_blk hzA
          have v0 : wA.frozen? ⟨z, 0, none⟩ = false := frozen_blk hzA
          have hkp := HOK1.out
          rw [HPE.out] at hkp
          have hkp := ok_parts (show secOk kj e nj lj d = true from hkp)
          clear hzA z6 z7 z8 zo
          by_cases hj0 : jj = 0
          · have hj0b : ((jj : Int) == 0) = true := by rw [beq_iff_eq]; omega
            have HJ0 := Aside0.mk hj0
            have hk2 : wrap64 (kj + 1) = kj + 1 := by unfold wrap64; omega
            have HN2 := Aside0.mk (show wrap64 (nj + 1) = nj + 1 by unfold wrap64; omega)
            clear hj0 hkp
            obtain ⟨wB, hwB⟩ : ∃ wB, wB = (wA.setCell ⟨z, 0, none⟩ (.int .i64 (kj + 1))) := ⟨_, rfl⟩
            have hkeep : ∀ q, q ≠ z → wB.heap[q]? = wA.heap[q]? := fun q hq => by rw [hwB]; exact Below.heap_setCell _ _ _ _ hq
            have hzB : wB.heap[z]? = some (.cells #[.int .i64 (kj + 1), .int .i64 e, .int .i64 nj, .int .i64 l, .slice AD dd cd] 44 (0, 0)) := by
              rw [hwB, blk_set ZA.out 0 _]
              rfl
            have hKB : KeepsOthers wA wB := by rw [hwB]; exact KeepsOthers.setCell _ _ _
            have hBB : Below z wA wB := by rw [hwB]; exact (Below.refl z wA).setCell (p := ⟨z, 0, none⟩) (Nat.le_refl _) _
            have hsB : wB.heap.size = wA.heap.size := by rw [hwB]; simp
            have hnx : kindS k (jj + 1) = kj + 1 := by
              rw [← hk2, HKJ.out, HJ0.out]
              rfl
            have e1 := HZO.out
            have e2 := HNS.out
            have e3 := HSZ.out
            have e4 := HUB.out
            have hne : tb ≠ z ∧ z + 1 ≠ z ∧ z + 1 + 1 ≠ z ∧ nb ≠ z ∧ nb + 1 ≠ z := by omega
            have htB := (hkeep tb hne.1).trans HTBA.out
            have hoB := (hkeep (nb + 1) hne.2.2.2.2).trans ZO.out
            have HZB := Aside0.mk hzB
            have HTB := Aside0.mk htB
            have HOB := Aside0.mk hoB
            have H6B := Aside0.mk ((hkeep (z + 1) hne.2.1).trans Z6.out)
            have H7B := Aside0.mk ((hkeep (z + 1 + 1) hne.2.2.1).trans Z7.out)
            have H8B := Aside0.mk ((hkeep nb hne.2.2.2.1).trans Z8.out)
            have HNX := Aside0.mk hnx
            have HKOB := Aside0.mk ((keeps_below HBA.out).trans hKB)
            have HBZB := Aside0.mk (show Below z W wB from (HBA.out.mono (by omega)).trans hBB)
            have HEB := Aside0.mk (show ∀ q, q < W.heap.size → q ≠ z → wB.heap[q]? = W.heap[q]? from fun q hq hz => (hkeep q hz).trans (HBA.out.block q hq))
            have HSB := Aside0.mk (show n₀ ≤ wB.heap.size by have := HBA.out.size; omega)
            have HDB := Aside0.mk (show Kd.R (Kd.int .u8) 5 wB W.heap.size (fun _ => True) (.slice A1 dn c1) d from Kd.R_mono (Kd.R_step (Kd.R_bound HRA.out) (fun q hq hlt => hkeep q (by have := hq.2.1; omega))) (fun _ _ => trivial))
            have HRB := Aside0.mk (show Kd.R PSectorGets.k44 44 wB n₀ (fun q => n₀ ≤ q) (.slice A0 jj c0) (secsAt k e n text jj) from Kd.R_step (Kd.R_below HRW.out HBA.out) (fun q hq hlt => hkeep q (by omega)))
            have HMB := Aside0.mk (show PSectorGets.k44.M wB n₀ (fun q => n₀ ≤ q ∧ some q ≠ (Value.slice A0 jj c0).ownBlock) (secOf k e n text jj) [.int .i64 kj, .int .i64 e, .int .i64 nj, .int .i64 lj, .slice A1 dn c1] by
              rw [HPE.out]
              refine PSectorGets.k44_mkM wB n₀ _ ⟨kj, e, nj, lj, d⟩ ?_
              refine Kd.R_mono (Kd.R_bound (Kd.R_lower HDB.out (by omega))) (fun q hq => ⟨hq.2.1, ?_⟩)
              obtain ⟨_, _, _, q2, hq2, cells, hc⟩ := hq
              obtain rfl : q2 = 5 := by simpa [Kd.int, Kd.scalar] using hq2
              exact Kd.R_ne HRB.out hc (by decide))
            have hl10 : ((secsAt k e n text jj).length + 1) * 56 ≤ 140737488355328 := by rw [secsAt_len]; have := HLT.out; omega
            have p8 : wB.cell? ⟨nb + 1, 0, none⟩ = some (.slice A0 jj c0) := cell_blk hoB
            have x0 : wB.cell? ⟨tb, 0, none⟩ = some (.int .i64 kj) := cell_blk htB
            have x1 : wB.cell? ⟨tb, 1, none⟩ = some (.int .i64 e) := cell_blk htB
            have x2 : wB.cell? ⟨tb, 2, none⟩ = some (.int .i64 nj) := cell_blk htB
            have x3 : wB.cell? ⟨tb, 3, none⟩ = some (.int .i64 lj) := cell_blk htB
            have x4 : wB.cell? ⟨tb, 4, none⟩ = some (.slice A1 dn c1) := cell_blk htB
            rw [hwB] at p8 x0 x1 x2 x3 x4
            clear hkeep hzB hKB hBB  hnx e1 e2 e3 e4 hne htB hoB
            gi_wp2_with (gi_at_builtin; refine Hid.out ?_)
            refine Lib.hid ?_
            rw [← hwB, ← hsB]
            clear hwB hsB
            refine R_append_in PSectorGets.k44 (w0 := wB) (W := wB) n₀ rfl (.tmp 46) (.tmp 48) 50 44 (.agg #[(.int .i64 0), (.int .i64 0), (.int .i64 0), (.int .i64 0), (.slice none 0 0)]) 56 rfl Try.underlying50 PSectorGets.info44 rfl (by decide) (by omega) (.slice A0 jj c0) (secsAt k e n text jj) (secOf k e n text jj) [.int .i64 kj, .int .i64 e, .int .i64 nj, .int .i64 lj, .slice A1 dn c1] (fun q => n₀ ≤ q) (fun q => n₀ ≤ q ∧ some q ≠ (Value.slice A0 jj c0).ownBlock) rfl rfl HMB.out (fun q hq => hq) (fun q hq => Nat.le_trans HSB.out hq) HRB.out (Below.refl _ _) HSB.out hl10 ?_
            clear hl10 p8 x0 x1 x2 x3 x4
            intro v2 w11 hr11 hb11 hg11 hat11
            obtain ⟨A3, c3, rfl⟩ := Kd.R_slice hr11
            have hlen : (secsAt k e n text jj ++ [secOf k e n text jj]).length = jj + 1 := by rw [List.length_append, secsAt_len]; rfl
            rw [hlen] at hr11 ⊢
            clear hlen
            have e1 := HZO.out
            have e2 := HNS.out
            have e3 := HSZ.out
            have e4 := HSB.out
            have hbo : w11.heap[nb + 1]? = some (.cells #[.slice A0 jj c0] 50 (0, 0)) := (hb11.block (nb + 1) (by omega)).trans HOB.out
            have hbz : w11.heap[z]? = some (.cells #[.int .i64 (kj + 1), .int .i64 e, .int .i64 nj, .int .i64 l, .slice AD dd cd] 44 (0, 0)) := (hb11.block z (by omega)).trans HZB.out
            have o1 : w11.cell? ⟨nb + 1, 0, none⟩ = some (.slice A0 jj c0) := cell_blk hbo
            have of1 : w11.frozen? ⟨nb + 1, 0, none⟩ = false := frozen_blk hbo
            have u2 : ∀ u, (w11.setCell ⟨nb + 1, 0, none⟩ u).cell? ⟨z, 2, none⟩ = some (.int .i64 nj) := fun u => cell_blk ((Below.heap_setCell _ _ _ _ (by show z ≠ nb + 1; omega)).trans hbz)
            have uf2 : ∀ u, (w11.setCell ⟨nb + 1, 0, none⟩ u).frozen? ⟨z, 2, none⟩ = false := fun u => frozen_blk ((Below.heap_setCell _ _ _ _ (by show z ≠ nb + 1; omega)).trans hbz)
            have HBO := Aside0.mk hbo
            have HBZ2 := Aside0.mk hbz
            have HR11 := Aside0.mk hr11
            have HB11 := Aside0.mk hb11
            have HKO := Aside0.mk (HKOB.out.trans (KeepsOthers.of_grownBy hg11 (fun q o eq hq => by
              obtain ⟨inner, hown⟩ := Kd.R_own HRB.out
              obtain ⟨cells, hcl⟩ := own_typed hown q eq
              rw [hcl] at hq
              cases hq
              rfl)))
            have hw2 := HN2.out
            clear hbo hbz hr11 hb11 hg11 hat11 e1 e2 e3 e4
            gi_wp2
            obtain ⟨wf, hwf⟩ : ∃ wf, wf = (w11.setCell ⟨nb + 1, 0, none⟩ (.slice A3 (jj + 1) c3)).setCell ⟨z, 2, none⟩ (.int .i64 (nj + 1)) := ⟨_, rfl⟩
            have q1 := HZO.out
            have q2 := HNS.out
            have q3 := HSZ.out
            have hpl : (pre ++ [x]).length = jj + 1 := by rw [List.length_append, ← HJJ.out]; rfl
            have hf : ∀ q, q < n₀ → q ≠ nb + 1 → q ≠ z → wf.heap[q]? = W.heap[q]? := fun q hq hn1 hn2 => by
              rw [hwf, Below.heap_setCell _ _ _ _ (show q ≠ z from hn2), Below.heap_setCell _ _ _ _ (show q ≠ nb + 1 from hn1), HB11.out.block q hq]
              exact HEB.out q (by omega) hn2
            have hKF : KeepsOthers W wf := by rw [hwf]; exact (HKO.out.trans (KeepsOthers.setCell _ _ _)).trans (KeepsOthers.setCell _ _ _)
            have hBF : Below z W wf := by
              rw [hwf]
              exact ((HBZB.out.trans (HB11.out.mono (by omega))).setCell (p := ⟨nb + 1, 0, none⟩) (by show z ≤ nb + 1; omega) _).setCell (p := ⟨z, 2, none⟩) (Nat.le_refl _) _
            have hbF : wf.heap[nb + 1]? = some (.cells #[.slice A3 (jj + 1) c3] 50 (0, 0)) := by
              rw [hwf]
              exact (Below.heap_setCell _ _ _ _ (by show nb + 1 ≠ z; omega)).trans (blk_set HBO.out 0 _)
            have hzF : wf.heap[z]? = some (.cells #[.int .i64 (kindS k (jj + 1)), .int .i64 e, .int .i64 (numS n (jj + 1)), .int .i64 l, .slice AD dd cd] 44 (0, 0)) := by
              have h0 : (w11.setCell ⟨nb + 1, 0, none⟩ (.slice A3 (jj + 1) c3)).heap[z]? = some (.cells #[.int .i64 (kj + 1), .int .i64 e, .int .i64 nj, .int .i64 l, .slice AD dd cd] 44 (0, 0)) := (Below.heap_setCell _ _ _ _ (by show z ≠ nb + 1; omega)).trans HBZ2.out
              rw [hwf, blk_set h0 2 _, HNX.out, show numS n (jj + 1) = nj + 1 from by show wrap64 (numS n jj + 1) = _; rw [← HNJ.out]; exact HN2.out]
              rfl
            have hrF : Kd.R PSectorGets.k44 44 wf n₀ (fun q => n₀ ≤ q) (.slice A3 (jj + 1) c3) (secsAt k e n text (jj + 1)) := by
              rw [hwf, secsAt_succ]
              exact Kd.R_far (p := ⟨z, 2, none⟩) (Kd.R_far (p := ⟨nb + 1, 0, none⟩) HR11.out (fun q hq => by show q ≠ nb + 1; omega) _) (fun q hq => by show q ≠ z; omega) _
            have hsF : n₀ ≤ wf.heap.size := by
              rw [hwf]
              simp only [World.size_setCell]
              have := HB11.out.size
              have := HSB.out
              omega
            rw [← hwf]
            refine ⟨hKF.from _, ⟨hBF, hf _ (by omega) (by omega) (by omega), hf _ (by omega) (by omega) (by omega)⟩, ⟨⟨_, hbF, ?_⟩, ⟨hsF, ?_⟩, ?_, ?_, ?_, ?_⟩, HBL.out.trans hBF⟩
            · rw [hpl]
              exact hrF
            · intro j hj
              rw [hpl] at hj
              by_cases hjq : j = jj
              · rw [hjq]; exact HOK1.out
              · exact HOKJ.out j (by omega)
            · rw [hpl]
              exact hzF
            · exact (hf _ (by omega) (by omega) (by omega)).trans W6.out
            · exact (hf _ (by omega) (by omega) (by omega)).trans W7.out
            · exact (hf _ (by omega) (by omega) (by omega)).trans W8.out
          · have hj0b : ((jj : Int) == 0) = false := by rw [beq_eq_false_iff_ne]; omega
            have HJ0 := Aside0.mk hj0
            have HN2 := Aside0.mk (show wrap64 (nj + 1) = nj + 1 by unfold wrap64; omega)
            clear hj0 hkp
            obtain ⟨wB, hwB⟩ : ∃ wB, wB = wA := ⟨_, rfl⟩
            have hkeep : ∀ q, q ≠ z → wB.heap[q]? = wA.heap[q]? := fun q hq => by rw [hwB]
            have hzB : wB.heap[z]? = some (.cells #[.int .i64 kj, .int .i64 e, .int .i64 nj, .int .i64 l, .slice AD dd cd] 44 (0, 0)) := by
              rw [hwB]
              exact ZA.out
            have hKB : KeepsOthers wA wB := by rw [hwB]; exact keeps_below (Below.refl _ _)
            have hBB : Below z wA wB := by rw [hwB]; exact Below.refl _ _
            have hsB : wB.heap.size = wA.heap.size := by rw [hwB]
            have hnx : kindS k (jj + 1) = kj := by
              rw [HKJ.out]
              unfold kindS
              rw [if_neg (by omega), if_neg HJ0.out]
            have e1 := HZO.out
            have e2 := HNS.out
            have e3 := HSZ.out
            have e4 := HUB.out
            have hne : tb ≠ z ∧ z + 1 ≠ z ∧ z + 1 + 1 ≠ z ∧ nb ≠ z ∧ nb + 1 ≠ z := by omega
            have htB := (hkeep tb hne.1).trans HTBA.out
            have hoB := (hkeep (nb + 1) hne.2.2.2.2).trans ZO.out
            have HZB := Aside0.mk hzB
            have HTB := Aside0.mk htB
            have HOB := Aside0.mk hoB
            have H6B := Aside0.mk ((hkeep (z + 1) hne.2.1).trans Z6.out)
            have H7B := Aside0.mk ((hkeep (z + 1 + 1) hne.2.2.1).trans Z7.out)
            have H8B := Aside0.mk ((hkeep nb hne.2.2.2.1).trans Z8.out)
            have HNX := Aside0.mk hnx
            have HKOB := Aside0.mk ((keeps_below HBA.out).trans hKB)
            have HBZB := Aside0.mk (show Below z W wB from (HBA.out.mono (by omega)).trans hBB)
            have HEB := Aside0.mk (show ∀ q, q < W.heap.size → q ≠ z → wB.heap[q]? = W.heap[q]? from fun q hq hz => (hkeep q hz).trans (HBA.out.block q hq))
            have HSB := Aside0.mk (show n₀ ≤ wB.heap.size by have := HBA.out.size; omega)
            have HDB := Aside0.mk (show Kd.R (Kd.int .u8) 5 wB W.heap.size (fun _ => True) (.slice A1 dn c1) d from Kd.R_mono (Kd.R_step (Kd.R_bound HRA.out) (fun q hq hlt => hkeep q (by have := hq.2.1; omega))) (fun _ _ => trivial))
            have HRB := Aside0.mk (show Kd.R PSectorGets.k44 44 wB n₀ (fun q => n₀ ≤ q) (.slice A0 jj c0) (secsAt k e n text jj) from Kd.R_step (Kd.R_below HRW.out HBA.out) (fun q hq hlt => hkeep q (by omega)))
            have HMB := Aside0.mk (show PSectorGets.k44.M wB n₀ (fun q => n₀ ≤ q ∧ some q ≠ (Value.slice A0 jj c0).ownBlock) (secOf k e n text jj) [.int .i64 kj, .int .i64 e, .int .i64 nj, .int .i64 lj, .slice A1 dn c1] by
              rw [HPE.out]
              refine PSectorGets.k44_mkM wB n₀ _ ⟨kj, e, nj, lj, d⟩ ?_
              refine Kd.R_mono (Kd.R_bound (Kd.R_lower HDB.out (by omega))) (fun q hq => ⟨hq.2.1, ?_⟩)
              obtain ⟨_, _, _, q2, hq2, cells, hc⟩ := hq
              obtain rfl : q2 = 5 := by simpa [Kd.int, Kd.scalar] using hq2
              exact Kd.R_ne HRB.out hc (by decide))
            have hl10 : ((secsAt k e n text jj).length + 1) * 56 ≤ 140737488355328 := by rw [secsAt_len]; have := HLT.out; omega
            have p8 : wB.cell? ⟨nb + 1, 0, none⟩ = some (.slice A0 jj c0) := cell_blk hoB
            have x0 : wB.cell? ⟨tb, 0, none⟩ = some (.int .i64 kj) := cell_blk htB
            have x1 : wB.cell? ⟨tb, 1, none⟩ = some (.int .i64 e) := cell_blk htB
            have x2 : wB.cell? ⟨tb, 2, none⟩ = some (.int .i64 nj) := cell_blk htB
            have x3 : wB.cell? ⟨tb, 3, none⟩ = some (.int .i64 lj) := cell_blk htB
            have x4 : wB.cell? ⟨tb, 4, none⟩ = some (.slice A1 dn c1) := cell_blk htB
            subst hwB
            clear y0 v0 y8
            clear hkeep hzB hKB hBB hsB hnx e1 e2 e3 e4 hne htB hoB
            gi_wp2_with (gi_at_builtin; refine Hid.out ?_)
            refine Lib.hid ?_
            refine R_append_in PSectorGets.k44 (w0 := wB) (W := wB) n₀ rfl (.tmp 46) (.tmp 48) 50 44 (.agg #[(.int .i64 0), (.int .i64 0), (.int .i64 0), (.int .i64 0), (.slice none 0 0)]) 56 rfl Try.underlying50 PSectorGets.info44 rfl (by decide) (by omega) (.slice A0 jj c0) (secsAt k e n text jj) (secOf k e n text jj) [.int .i64 kj, .int .i64 e, .int .i64 nj, .int .i64 lj, .slice A1 dn c1] (fun q => n₀ ≤ q) (fun q => n₀ ≤ q ∧ some q ≠ (Value.slice A0 jj c0).ownBlock) rfl rfl HMB.out (fun q hq => hq) (fun q hq => Nat.le_trans HSB.out hq) HRB.out (Below.refl _ _) HSB.out hl10 ?_
            clear hl10 p8 x0 x1 x2 x3 x4
            intro v2 w11 hr11 hb11 hg11 hat11
            obtain ⟨A3, c3, rfl⟩ := Kd.R_slice hr11
            have hlen : (secsAt k e n text jj ++ [secOf k e n text jj]).length = jj + 1 := by rw [List.length_append, secsAt_len]; rfl
            rw [hlen] at hr11 ⊢
            clear hlen
            have e1 := HZO.out
            have e2 := HNS.out
            have e3 := HSZ.out
            have e4 := HSB.out
            have hbo : w11.heap[nb + 1]? = some (.cells #[.slice A0 jj c0] 50 (0, 0)) := (hb11.block (nb + 1) (by omega)).trans HOB.out
            have hbz : w11.heap[z]? = some (.cells #[.int .i64 kj, .int .i64 e, .int .i64 nj, .int .i64 l, .slice AD dd cd] 44 (0, 0)) := (hb11.block z (by omega)).trans HZB.out
            have o1 : w11.cell? ⟨nb + 1, 0, none⟩ = some (.slice A0 jj c0) := cell_blk hbo
            have of1 : w11.frozen? ⟨nb + 1, 0, none⟩ = false := frozen_blk hbo
            have u2 : ∀ u, (w11.setCell ⟨nb + 1, 0, none⟩ u).cell? ⟨z, 2, none⟩ = some (.int .i64 nj) := fun u => cell_blk ((Below.heap_setCell _ _ _ _ (by show z ≠ nb + 1; omega)).trans hbz)
            have uf2 : ∀ u, (w11.setCell ⟨nb + 1, 0, none⟩ u).frozen? ⟨z, 2, none⟩ = false := fun u => frozen_blk ((Below.heap_setCell _ _ _ _ (by show z ≠ nb + 1; omega)).trans hbz)
            have HBO := Aside0.mk hbo
            have HBZ2 := Aside0.mk hbz
            have HR11 := Aside0.mk hr11
            have HB11 := Aside0.mk hb11
            have HKO := Aside0.mk (HKOB.out.trans (KeepsOthers.of_grownBy hg11 (fun q o eq hq => by
              obtain ⟨inner, hown⟩ := Kd.R_own HRB.out
              obtain ⟨cells, hcl⟩ := own_typed hown q eq
              rw [hcl] at hq
              cases hq
              rfl)))
            have hw2 := HN2.out
            clear hbo hbz hr11 hb11 hg11 hat11 e1 e2 e3 e4
            gi_wp2
            obtain ⟨wf, hwf⟩ : ∃ wf, wf = (w11.setCell ⟨nb + 1, 0, none⟩ (.slice A3 (jj + 1) c3)).setCell ⟨z, 2, none⟩ (.int .i64 (nj + 1)) := ⟨_, rfl⟩
            have q1 := HZO.out
            have q2 := HNS.out
            have q3 := HSZ.out
            have hpl : (pre ++ [x]).length = jj + 1 := by rw [List.length_append, ← HJJ.out]; rfl
            have hf : ∀ q, q < n₀ → q ≠ nb + 1 → q ≠ z → wf.heap[q]? = W.heap[q]? := fun q hq hn1 hn2 => by
              rw [hwf, Below.heap_setCell _ _ _ _ (show q ≠ z from hn2), Below.heap_setCell _ _ _ _ (show q ≠ nb + 1 from hn1), HB11.out.block q hq]
              exact HEB.out q (by omega) hn2
            have hKF : KeepsOthers W wf := by rw [hwf]; exact (HKO.out.trans (KeepsOthers.setCell _ _ _)).trans (KeepsOthers.setCell _ _ _)
            have hBF : Below z W wf := by
              rw [hwf]
              exact ((HBZB.out.trans (HB11.out.mono (by omega))).setCell (p := ⟨nb + 1, 0, none⟩) (by show z ≤ nb + 1; omega) _).setCell (p := ⟨z, 2, none⟩) (Nat.le_refl _) _
            have hbF : wf.heap[nb + 1]? = some (.cells #[.slice A3 (jj + 1) c3] 50 (0, 0)) := by
              rw [hwf]
              exact (Below.heap_setCell _ _ _ _ (by show nb + 1 ≠ z; omega)).trans (blk_set HBO.out 0 _)
            have hzF : wf.heap[z]? = some (.cells #[.int .i64 (kindS k (jj + 1)), .int .i64 e, .int .i64 (numS n (jj + 1)), .int .i64 l, .slice AD dd cd] 44 (0, 0)) := by
              have h0 : (w11.setCell ⟨nb + 1, 0, none⟩ (.slice A3 (jj + 1) c3)).heap[z]? = some (.cells #[.int .i64 kj, .int .i64 e, .int .i64 nj, .int .i64 l, .slice AD dd cd] 44 (0, 0)) := (Below.heap_setCell _ _ _ _ (by show z ≠ nb + 1; omega)).trans HBZ2.out
              rw [hwf, blk_set h0 2 _, HNX.out, show numS n (jj + 1) = nj + 1 from by show wrap64 (numS n jj + 1) = _; rw [← HNJ.out]; exact HN2.out]
              rfl
            have hrF : Kd.R PSectorGets.k44 44 wf n₀ (fun q => n₀ ≤ q) (.slice A3 (jj + 1) c3) (secsAt k e n text (jj + 1)) := by
              rw [hwf, secsAt_succ]
              exact Kd.R_far (p := ⟨z, 2, none⟩) (Kd.R_far (p := ⟨nb + 1, 0, none⟩) HR11.out (fun q hq => by show q ≠ nb + 1; omega) _) (fun q hq => by show q ≠ z; omega) _
            have hsF : n₀ ≤ wf.heap.size := by
              rw [hwf]
              simp only [World.size_setCell]
              have := HB11.out.size
              have := HSB.out
              omega
            rw [← hwf]
            refine ⟨hKF.from _, ⟨hBF, hf _ (by omega) (by omega) (by omega), hf _ (by omega) (by omega) (by omega)⟩, ⟨⟨_, hbF, ?_⟩, ⟨hsF, ?_⟩, ?_, ?_, ?_, ?_⟩, HBL.out.trans hBF⟩
            · rw [hpl]
              exact hrF
            · intro j hj
              rw [hpl] at hj
              by_cases hjq : j = jj
              · rw [hjq]; exact HOK1.out
              · exact HOKJ.out j (by omega)
            · rw [hpl]
              exact hzF
            · exact (hf _ (by omega) (by omega) (by omega)).trans W6.out
            · exact (hf _ (by omega) (by omega) (by omega)).trans W7.out
            · exact (hf _ (by omega) (by omega) (by omega)).trans W8.out
      · rcases ho with ho | ho <;> (cases ho; rfl)
    case done =>
      rintro D' ys W hD hS ⟨⟨⟨v, hbv, hrv⟩, ⟨hsz, hok⟩, h5, h6, h7, h8⟩, hbl⟩ hK
      have hyl : ys.length = N := by rw [hS, HCN.out]
      rw [hyl] at hrv hok
      obtain ⟨A1, c1, rfl⟩ := Kd.R_slice hrv
      have HQ := Aside0.mk (show R = (secsAt k e n text N, 0) by
        rw [HRR.out]
        unfold splitP
        have hN2 : needS text.length = N := by rw [HN.out, HTN.out]
        rw [if_neg (by rw [← HTN.out]; exact h0), hN2, if_pos (List.all_eq_true.2 (fun j hj => hok j (List.mem_range.1 hj)))])
      have y6 : W.cell? ⟨z + 1, 0, none⟩ = some (.slice none 0 0) := cell_blk h6
      have y7 : W.cell? ⟨z + 1 + 1, 0, none⟩ = some (.int .i64 0) := cell_blk h7
      have v6 : W.frozen? ⟨z + 1, 0, none⟩ = false := frozen_blk h6
      have v7 : W.frozen? ⟨z + 1 + 1, 0, none⟩ = false := frozen_blk h7
      have y8 : W.cell? ⟨nb + 1, 0, none⟩ = some (.slice A1 (secsAt k e n text N).length c1) := hbv.cell
      have HG6 := Aside0.mk h6
      have HG7 := Aside0.mk h7
      have HRV := Aside0.mk hrv
      have HBL := Aside0.mk hbl
      obtain ⟨ln, hln⟩ : ∃ ln, ln = (secsAt k e n text N).length := ⟨_, rfl⟩
      have HLN := Aside0.mk hln
      rw [← hln] at y8
      clear h5 h6 h7 h8 hrv hbl hok hbv hyl hS hsz hln
      gi_wp2
      obtain ⟨V, hV⟩ : ∃ V, V = (W.setCell ⟨z + 1, 0, none⟩ (.slice A1 ln c1)).setCell ⟨z + 1 + 1, 0, none⟩ (.int .i64 0) := ⟨_, rfl⟩
      have hKV : V.heap[D']? = some (.deferred (some [])) := by
        rw [hV]
        exact ((KeepsOthers.setCell W ⟨z + 1, 0, none⟩ (.slice A1 ln c1)).trans (KeepsOthers.setCell _ ⟨z + 1 + 1, 0, none⟩ (.int .i64 0))).same D' _ hK rfl
      have e6 : V.heap[z + 1]? = some (.cells #[.slice A1 ln c1] 50 (0, 0)) := by
        rw [hV]
        exact (Below.heap_setCell _ _ _ _ (by simp)).trans (blk_set HG6.out 0 _)
      have e7 : V.heap[z + 1 + 1]? = some (.cells #[.int .i64 0] 26 (0, 0)) := by
        rw [hV]
        exact blk_set (show (W.setCell ⟨z + 1, 0, none⟩ (.slice A1 ln c1)).heap[z + 1 + 1]? = _ from (Below.heap_setCell _ _ _ _ (by simp)).trans HG7.out) 0 _
      have hRV : Kd.R PSectorGets.k44 44 V n₀ (fun k => n₀ ≤ k) (.slice A1 ln c1) (secsAt k e n text N) := by
        rw [hV, HLN.out]
        have q := HZO.out
        have q2 := HNS.out
        exact Kd.R_far (p := ⟨z + 1 + 1, 0, none⟩) (Kd.R_far (p := ⟨z + 1, 0, none⟩) HRV.out (fun k hk => by show k ≠ z + 1; omega) _) (fun k hk => by show k ≠ z + 1 + 1; omega) _
      have hBV : Below z w V := by
        rw [hV]
        have q := HZO.out
        have q2 := HS0.out
        exact ((HBZ.out.trans HBL.out).setCell (p := ⟨z + 1, 0, none⟩) (by show z ≤ z + 1; omega) _).setCell (p := ⟨z + 1 + 1, 0, none⟩) (by show z ≤ z + 1 + 1; omega) _
      rw [← hV]
      clear hV
      refine ⟨by simp, .inl ⟨_, _, rfl, run_takeDeferred hKV, ?_⟩⟩
      have hc6 := cell_kept (show V.cell? ⟨z + 1, 0, none⟩ = some (.slice A1 ln c1) from cell_blk e6) (grownBy_putObj' V D' (.deferred none)) (fun r e => by cases e; exact ⟨_, hKV, rfl⟩)
      have hc7 := cell_kept (show V.cell? ⟨z + 1 + 1, 0, none⟩ = some (.int .i64 0) from cell_blk e7) (grownBy_putObj' V D' (.deferred none)) (fun r e => by cases e; exact ⟨_, hKV, rfl⟩)
      have hRF := R_keptrow hRV (grownBy_putObj' V D' (.deferred none)) (fun r e => by cases e; exact ⟨_, hKV, rfl⟩)
      rw [HLN.out] at hRF hc6
      refine ⟨.tuple #[.slice A1 (secsAt k e n text N).length c1, .int .i64 0], ?_, A1, c1, by rw [HQ.out], ?_, fun x hx => ?_, ?_⟩
      · simp [results, Try.f28, go_sem, hc6, hc7]
      · rw [HQ.out]
        obtain ⟨A2, c2, e, hle, _⟩ := Kd.R_reads hRF
        cases e
        exact hle
      · rw [HQ.out]
        obtain ⟨A2, c2, e, hle, hcc⟩ := Kd.R_reads (Kd.R_below hRF hx)
        cases e
        exact hcc
      · rw [← HZ.out]
        exact hBV.trans (belowK_b (w := W1) (by have := HN0.out; have := HNS.out; have := HZO.out; omega) V D' _ _ (by omega) hKV rfl rfl)
    case stop =>
      rintro D' cc pre W hD _ ⟨⟨rfl, h6, h7, j, hj, hjf⟩, hB⟩ hK
      have HQ := Aside0.mk (show R = ([], 1) by
        rw [HRR.out]
        unfold splitP
        have hN2 : needS text.length = N := by rw [HN.out, HTN.out]
        rw [if_neg (by rw [← HTN.out]; exact h0), hN2, if_neg (by
          intro h
          have := List.all_eq_true.1 h j (List.mem_range.2 hj)
          rw [hjf] at this
          cases this)])
      have H6 := Aside0.mk h6
      have H7 := Aside0.mk h7
      clear h6 h7
      gi_wp2
      refine ⟨by simp, .inl ⟨_, _, rfl, run_takeDeferred hK, ?_⟩⟩
      have hc6 := cell_kept (show W.cell? ⟨z + 1, 0, none⟩ = some (.slice none 0 0) from cell_blk H6.out) (grownBy_putObj' W D' (.deferred none)) (fun r e => by cases e; exact ⟨_, hK, rfl⟩)
      have hc7 := cell_kept (show W.cell? ⟨z + 1 + 1, 0, none⟩ = some (.int .i64 1) from cell_blk H7.out) (grownBy_putObj' W D' (.deferred none)) (fun r e => by cases e; exact ⟨_, hK, rfl⟩)
      refine ⟨.tuple #[.slice none 0 0, .int .i64 1], ?_, none, 0, by rw [HQ.out]; rfl, by rw [HQ.out]; exact Nat.le_refl _, fun x hx => by rw [HQ.out]; exact ⟨rfl, by decide, fun h => absurd h (by decide)⟩, ?_⟩
      · simp [results, Try.f28, go_sem, hc6, hc7]
      · rw [← HZ.out]
        exact (HBZ.out.trans hB).trans (belowK_b (w := W1) (by have := HN0.out; have := HNS.out; have := HZO.out; omega) W D' _ _ (by omega) hK rfl rfl)
end Sect
end Go.Proofs.Ytkfbegmfepehiaa
