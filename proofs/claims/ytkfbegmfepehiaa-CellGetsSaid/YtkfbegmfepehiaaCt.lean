/- Walks: cell.parts, the iterator of a text's parts. -/
import Derived.Test.YtkfbegmfepehiaaIt
import Derived.Test.YtkfbegmfepehiaaKv
namespace Go.Proofs.Ytkfbegmfepehiaa
set_option linter.unusedVariables false
set_option linter.unusedSimpArgs false
open Go.RowKit Go.Shelf Go.Proofs.YtkfbegmfepehiaaW.PrintWords Go.Proofs.YtkfbegmfepehiaaW.PrintLast Go.Proofs.YtkfbegmfepehiaaW.PrintMore
attribute [local go_sem] Oper.semAt_some min2_int min_two
namespace Cell
/-- What a round keeps: what lay ahead, and the iterator's variable. -/
def KeptB (m b : Nat) (A B : World) : Prop := Below m A B ∧ B.heap[b]? = A.heap[b]?
theorem KeptB.trans {m b : Nat} {A B C : World} (h : KeptB m b A B) (k : KeptB m b B C) : KeptB m b A C := ⟨h.1.trans k.1, k.2.trans h.2⟩
theorem KeptB.putObj {m b : Nat} {w : World} (hm : m ≤ w.heap.size) (hb : b < w.heap.size) (W : World) (l : Nat) (o o' : Obj) (hl : w.heap.size ≤ l) (h : W.heap[l]? = some o) (h1 : o.isCells = false) (h2 : o.isWalk = false) : KeptB m b W (W.putObj l o') :=
  ⟨belowK_b hm W l o o' hl h h1 h2, World.putObj_heap_other (by omega)⟩
/-- A part as it is handed out. -/
structure Part where
  i : Nat
  a : Option Addr
  c : Nat
  d : List Int
def Part.enc (x : Part) : Array Value := #[.int .i64 (x.i : Int), .slice x.a x.d.length x.c]
/-- What is known of a part when it is handed out. -/
def PartOk (base : Nat) (text : List Int) (pre : List Part) (x : Part) (W : World) : Prop :=
  x.i = pre.length ∧ x.d = (text.drop (242 * pre.length)).take 242 ∧ Kd.R (Kd.int .u8) 5 W base (fun _ => True) (.slice x.a x.d.length x.c) x.d

set_option maxRecDepth 100000 in
set_option maxHeartbeats 4000000 in
theorem parts1_in (n : Nat) (hn : 1 ≤ n) (l Bs m n₀ : Nat) (text : List Int) (A : Option Addr) (c : Nat) (hc : text.length ≤ c) (hm : m ≤ Bs) (hBn : Bs < n₀) (hmn : m ≤ n₀) (hfew : text.length ≤ 262144) (J Jx : List Part → World → Prop)
    (W : World) (hW : n₀ ≤ W.heap.size) (hT : ∀ x, Below m W x → Kd.C (Kd.int .u8) x A text.length text)
    (hJ : ∀ s A B, J s A → Only Bs A B → J s B) (hJx : ∀ s A B, Jx s A → Only Bs A B → Jx s B)
    (hY : ∀ pre x W1, J pre W1 → pre.length < (text.length + 241) / 242 → PartOk n₀ text pre x W1 → YieldAt Fence.wide (n - 1) Try.prog l x.enc W1 fun e W' =>
      (e = .returned (.bool true) ∧ J (pre ++ [x]) W' ∧ KeptB m Bs W1 W') ∨ (e = .returned (.bool false) ∧ Jx (pre ++ [x]) W'))
    (hBs : W.heap[Bs]? = some (.cells #[.slice A text.length c] 22 (0, 0))) (h0 : J [] W) :
    CallsIn Fence.wide n Try.prog 65 #[.func (.yield l) #[] #[], .pointer (some ⟨Bs, 0, none⟩)] W fun e W' => (∃ v, e = .returned v) ∧
      ((∃ ys, ys.length = (text.length + 241) / 242 ∧ J ys W') ∨ (∃ pre, True ∧ Jx pre W')) := by
  have HT := Aside0.mk hT
  have HBS := Aside0.mk hBs
  have HY := Aside0.mk hY
  have HJ := Aside0.mk hJ
  have HJX := Aside0.mk hJx
  clear hT hBs hY hJ hJx
  refine callsIn_of_wp Try.func65 rfl trivial ?_ rfl
  simp only [Try.ntmps65, List.size_toArray, List.length_cons, List.length_nil, Nat.reduceAdd, Nat.reduceSub, Array.replicate_succ, Array.replicate_zero, List.push_toArray, List.append_toArray, List.nil_append, List.cons_append]
  gi_wp2
  gi_loopw [3] (fun i wr => ∃ (k : Nat) (pre : List Part) (rl c' : Nat) (A' : Option Addr), Aside0 (pre.length = k ∧ 242 * k ≤ text.length + 241 ∧ rl ≤ c' ∧ n₀ ≤ wr.heap.size ∧ rl = text.length - 242 * k) ∧ i = .int .i64 (k : Int) ∧ Aside0 (J pre wr) ∧ Aside0 (Below m W wr) ∧ Aside0 (wr.heap[Bs]? = some (.cells #[.slice A' rl c'] 22 (0, 0))) ∧ Aside0 (∀ x, Below m wr x → Kd.C (Kd.int .u8) x A' rl (text.drop (242 * k))))
    (fun i _ => (text.length + 242 - 242 * (intOf i)).toNat)
  case atStart => exact ⟨0, [], text.length, c, A, ⟨rfl, by simp, hc, hW, by omega⟩, by simp, ⟨h0⟩, ⟨Below.refl _ _⟩, HBS, ⟨fun x hx => by simpa using HT.out x hx⟩⟩
  case round =>
    obtain ⟨k, pre, rl, c', A', HA, rfl, HJP, HB, HX, HC⟩ := hrel
    have b0 : wr.cell? ⟨Bs, 0, none⟩ = some (.slice A' rl c') := cell_blk HX.out
    have bf : wr.frozen? ⟨Bs, 0, none⟩ = false := frozen_blk HX.out
    by_cases hz : rl = 0
    · subst hz
      gi_wp2
      go_end0
      exact ⟨⟨_, rfl⟩, .inl ⟨pre, by have := HA.out; omega, HJP.out⟩⟩
    · have hp : 0 < rl := by omega
      obtain ⟨a', rfl⟩ : ∃ a', A' = some a' := by obtain ⟨a', ha, _⟩ := (HC.out _ (Below.refl _ _)).2.2 hp; exact ⟨a', ha⟩
      have HDR := Aside0.mk (show (text.drop (242 * k)).length = rl by rw [List.length_drop]; have := HA.out; omega)
      by_cases h242 : 242 < rl
      · have hc2 : 242 ≤ c' := by have := HA.out; omega
        have hc3 : ¬ c' = 242 := by have := HA.out; omega
        have hpl : ((text.drop (242 * k)).take 242).length = 242 := by rw [List.length_take, HDR.out]; omega
        obtain ⟨d, hd⟩ : ∃ d, d = (text.drop (242 * k)).take 242 := ⟨_, rfl⟩
        rw [← hd] at hpl
        have HDL := Aside0.mk hpl
        have HD := Aside0.mk hd
        have HCD := Aside0.mk (show ∀ x, Below m wr x → Kd.C (Kd.int .u8) x (some a') d.length d from fun x hx => by
          have h1 := HC.out x hx
          rw [← HDR.out] at h1
          have := take_C h1 242 (by rw [HDR.out]; omega)
          rw [hpl, hd]
          first
          | exact this
          | (rw [List.take_of_length_le (by rw [HDR.out]; omega)] at this ⊢; exact this))
        clear hd hpl
        have hcl := clone8 (w := wr) a' c' d (HCD.out _ (Below.refl _ _)) (by rw [HDL.out]; omega)
        rw [HDL.out] at hcl
        gi_wp2
        refine ⟨trivial, ((callsIn_wide (n := n - 1)).2 hcl).mono ?_⟩
        clear hcl
        rintro e w1 ⟨v1, rfl, hr1, b1, hv1⟩
        obtain ⟨A1, c1, rfl⟩ := Kd.R_slice hr1
        have hn1 : n₀ ≤ wr.heap.size := by have := HA.out; omega
        obtain ⟨fn, tmps, assign, body, hy, hRd⟩ := HY.out pre ⟨k, A1, c1, d⟩ w1 (HJ.out _ _ _ HJP.out (Only.of_below b1)) (by have := HA.out; omega) ⟨HA.out.1.symm, by rw [HA.out.1]; exact HD.out, Kd.R_lower hr1 hn1⟩
        simp only [Part.enc] at hy
        have HX1 := Aside0.mk ((b1.block _ (blk_lt HX.out)).trans HX.out)
        clear hv1 hr1 b0 bf
        gi_wp2
        refine hRd.mono ?_
        clear hRd hy
        rintro e W3 (⟨rfl, hJ3, k3⟩ | ⟨rfl, hJx3⟩)
        · have hx3 := k3.2.trans HX1.out
          have b3 : W3.cell? ⟨Bs, 0, none⟩ = some (.slice (some a') rl c') := cell_blk hx3
          have bf3 : W3.frozen? ⟨Bs, 0, none⟩ = false := frozen_blk hx3
          have HX3 := Aside0.mk hx3
          have hpl1 : (pre ++ [(⟨k, A1, c1, d⟩ : Part)]).length = k + 1 := by rw [List.length_append, HA.out.1]; rfl
          clear hx3
          gi_wp2
          go_roundw
          case rel =>
            have hb4 : Below m wr (W3.setCell ⟨Bs, 0, none⟩ (.slice (some ⟨a'.block, a'.off + 242, none⟩) (rl - 242) (c' - 242))) := ((b1.mono (by omega)).trans k3.1).setCell hm _
            refine ⟨k + 1, pre ++ [⟨k, A1, c1, d⟩], rl - 242, c' - 242, (some ⟨a'.block, a'.off + 242, none⟩), ⟨hpl1, by have := HA.out; omega, by have := HA.out; omega, by simp only [World.size_setCell]; have := HA.out; have := b1.size; have := k3.1.size; omega, by have := HA.out; omega⟩, ?_, ⟨HJ.out _ _ _ hJ3 (Only.set _ _ _ _)⟩, ⟨HB.out.trans hb4⟩, ⟨?_⟩, ⟨fun y hy => ?_⟩⟩
            · congr 1
              have := HA.out
              unfold wrap64
              omega
            · rw [blk_set HX3.out 0 _]
              rfl
            · have h1 := HC.out y (hb4.trans hy)
              rw [← HDR.out] at h1
              have h2 := drop_C h1 242 (by rw [HDR.out]; omega)
              rw [HDR.out, List.drop_drop] at h2
              exact h2
          case measure =>
            have := HA.out
            rw [show wrap64 ((k : Int) + 1) = (k : Int) + 1 by unfold wrap64; omega]
            simp only [intOf]
            omega
        · gi_wp2
          refine bodyPost_ret (results_none rfl _ _ _) rfl ?_
          exact ⟨⟨_, rfl⟩, .inr ⟨_, trivial, hJx3⟩⟩
      · have hr2 : rl ≤ 242 := by omega
        have hc2 : rl ≤ c' := by have := HA.out; omega
        have hpl : ((text.drop (242 * k)).take 242).length = rl := by rw [List.length_take, HDR.out]; omega
        obtain ⟨d, hd⟩ : ∃ d, d = (text.drop (242 * k)).take 242 := ⟨_, rfl⟩
        rw [← hd] at hpl
        have HDL := Aside0.mk hpl
        have HD := Aside0.mk hd
        have HCD := Aside0.mk (show ∀ x, Below m wr x → Kd.C (Kd.int .u8) x (some a') d.length d from fun x hx => by
          have h1 := HC.out x hx
          rw [← HDR.out] at h1
          have := take_C h1 rl (by rw [HDR.out]; omega)
          rw [hpl, hd]
          first
          | exact this
          | (rw [List.take_of_length_le (by rw [HDR.out]; omega)] at this ⊢; exact this))
        clear hd hpl
        have hcl := clone8 (w := wr) a' c' d (HCD.out _ (Below.refl _ _)) (by rw [HDL.out]; omega)
        rw [HDL.out] at hcl
        gi_wp2
        refine ⟨trivial, ((callsIn_wide (n := n - 1)).2 hcl).mono ?_⟩
        clear hcl
        rintro e w1 ⟨v1, rfl, hr1, b1, hv1⟩
        obtain ⟨A1, c1, rfl⟩ := Kd.R_slice hr1
        have hn1 : n₀ ≤ wr.heap.size := by have := HA.out; omega
        obtain ⟨fn, tmps, assign, body, hy, hRd⟩ := HY.out pre ⟨k, A1, c1, d⟩ w1 (HJ.out _ _ _ HJP.out (Only.of_below b1)) (by have := HA.out; omega) ⟨HA.out.1.symm, by rw [HA.out.1]; exact HD.out, Kd.R_lower hr1 hn1⟩
        simp only [Part.enc] at hy
        have HX1 := Aside0.mk ((b1.block _ (blk_lt HX.out)).trans HX.out)
        clear hv1 hr1 b0 bf
        gi_wp2
        refine hRd.mono ?_
        clear hRd hy
        rintro e W3 (⟨rfl, hJ3, k3⟩ | ⟨rfl, hJx3⟩)
        · have hx3 := k3.2.trans HX1.out
          have b3 : W3.cell? ⟨Bs, 0, none⟩ = some (.slice (some a') rl c') := cell_blk hx3
          have bf3 : W3.frozen? ⟨Bs, 0, none⟩ = false := frozen_blk hx3
          have HX3 := Aside0.mk hx3
          have hpl1 : (pre ++ [(⟨k, A1, c1, d⟩ : Part)]).length = k + 1 := by rw [List.length_append, HA.out.1]; rfl
          clear hx3
          gi_wp2
          go_roundw
          case rel =>
            have hb4 : Below m wr (W3.setCell ⟨Bs, 0, none⟩ (.slice (if c' = rl then some a' else some (a'.add rl)) (0) (c' - rl))) := ((b1.mono (by omega)).trans k3.1).setCell hm _
            refine ⟨k + 1, pre ++ [⟨k, A1, c1, d⟩], 0, c' - rl, (if c' = rl then some a' else some (a'.add rl)), ⟨hpl1, by have := HA.out; omega, by have := HA.out; omega, by simp only [World.size_setCell]; have := HA.out; have := b1.size; have := k3.1.size; omega, by have := HA.out; omega⟩, ?_, ⟨HJ.out _ _ _ hJ3 (Only.set _ _ _ _)⟩, ⟨HB.out.trans hb4⟩, ⟨?_⟩, ⟨fun y hy => ?_⟩⟩
            · congr 1
              have := HA.out
              unfold wrap64
              omega
            · rw [blk_set HX3.out 0 _]
              rfl
            · exact ⟨by rw [List.length_drop]; have := HA.out; omega, by decide, fun h => absurd h (by decide)⟩
          case measure =>
            have := HA.out
            rw [show wrap64 ((k : Int) + 1) = (k : Int) + 1 by unfold wrap64; omega]
            simp only [intOf]
            omega
        · gi_wp2
          refine bodyPost_ret (results_none rfl _ _ _) rfl ?_
          exact ⟨⟨_, rfl⟩, .inr ⟨_, trivial, hJx3⟩⟩
end Cell
end Go.Proofs.Ytkfbegmfepehiaa
