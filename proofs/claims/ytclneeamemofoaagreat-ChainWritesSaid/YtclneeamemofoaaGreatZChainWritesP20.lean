/- Part 21 of the proof of ChainWrites: lemmas alone. -/
import Derived.Test.YtclneeamemofoaaGreatZChainWritesP11
import Derived.Test.YtclneeamemofoaaGreatZChainWritesP18
import Derived.Maps.Own
import Derived.Maps.Views
section
namespace Go.Proofs.YtclneeamemofoaaGreat
set_option linter.unusedVariables false
set_option linter.unusedSimpArgs false
open Go.RowKit Go.Proofs.YtclneeamemofoaaGreatW.PrintWords Go.Proofs.YtclneeamemofoaaGreatW.PrintLast Go.Proofs.YtclneeamemofoaaGreatW.PrintMore
namespace Ch
open Go.Maps
def apartP (n : Int) (l : List Int) : Bool := decide ((∀ x ∈ l, 2 ≤ x ∧ x < n) ∧ l.Nodup)
theorem apart_nil (n : Int) : apartP n [] = true := by simp [apartP]
theorem apart_snoc (n : Int) (l : List Int) (x : Int) : apartP n (l ++ [x]) = (apartP n l && decide (2 ≤ x ∧ x < n ∧ ¬ x ∈ l)) := by
  unfold apartP
  rw [← Bool.decide_and]
  congr 1
  rw [List.nodup_append]
  simp
  constructor
  · rintro ⟨h, k, m⟩
    exact ⟨⟨fun y hy => h y (.inl hy), k⟩, (h x (.inr rfl)).1, (h x (.inr rfl)).2, fun hx => m x hx rfl⟩
  · rintro ⟨⟨h, k⟩, a, b, c⟩
    exact ⟨fun y hy => by rcases hy with hy | rfl; exact h y hy; exact ⟨a, b⟩, k, fun y hy e => c (e ▸ hy)⟩
theorem apart_less (n : Int) (l r : List Int) (h : apartP n (l ++ r) = true) : apartP n l = true := by
  unfold apartP at h ⊢
  have h := of_decide_eq_true h
  exact decide_eq_true ⟨fun x hx => h.1 x (List.mem_append_left _ hx), (List.nodup_append.1 h.2).1⟩
abbrev H0 := TypeId × Value
def marks : List Int → DataW H0
  | [] => .map []
  | x :: r => (marks r).put (.int .i64 x) (.lit (.int .i64 1))
theorem marks_map : ∀ l : List Int, IsMap (marks l)
  | [] => ⟨[], rfl⟩
  | x :: r => by
    obtain ⟨es, h⟩ := marks_map r
    exact IsMap.put ⟨es, h⟩ _ _
theorem marks_at (x : Int) : ∀ l : List Int, (marks l).atKey (.int .i64 x) (.lit (.int .i64 0)) = .lit (.int .i64 (if x ∈ l then 1 else 0))
  | [] => rfl
  | y :: r => by
    by_cases h : x = y
    · subst h
      rw [marks, atKey_put_same (marks_map r) (by trivial), if_pos (by simp)]
    · rw [marks, atKey_put_other (by simpa using h), marks_at x r]
      simp [h]
theorem wf_i64 {x : Int} (h0 : -9223372036854775808 ≤ x) (h1 : x ≤ 9223372036854775807) : (Lit.int .i64 x).wf = true := by
  simpa [Lit.wf] using (show IntKind.i64.min ≤ x ∧ x ≤ IntKind.i64.max from ⟨h0, h1⟩)
theorem up1 (p : Nat) (h : p ≤ 1000000000) : wrap64 ((p : Int) + 1) = ((p + 1 : Nat) : Int) := by
  unfold wrap64; omega
abbrev mapOf (w : World) (b n : Nat) (l : List Int) : Prop := w.ownsMap Tryz.prog 3 (plainElem Tryz.prog 3) b n (marks l)
theorem mark_at {w : World} {b n : Nat} {l : List Int} (h : mapOf w b n l) (x : Int) (hx : (Lit.int .i64 x).wf = true) :
    (Instr.lookup 99 (.map (some b)) (.int .i64 x) false).run Tryz.prog w = .ok (.int .i64 (if x ∈ l then 1 else 0)) w := by
  obtain ⟨c, hr, hc, _⟩ := World.ownsMap.lookup_int h (int_keyed Tryz.underlying3) Tryz.underlying99 Tryz.underlying3 (by kernel_rfl) (keyOf_int_mk Tryz.underlying3 hx)
  rw [marks_at] at hc
  rw [hr]
  simp only [DataW.lit.injEq, Lit.int.injEq, true_and] at hc
  rw [hc]
theorem below_row {w0 w w' : World} {b : Nat} (h : Below w0.heap.size w0 w) (hg : w.grownBy w' (some b)) (hb : w0.heap.size ≤ b) : Below w0.heap.size w0 w' :=
  h.trans ⟨hg.os, hg.tape, hg.output, hg.size, fun k hk => hg.block k (Nat.lt_of_lt_of_le hk h.size) (fun e => by cases e; omega)⟩
structure AP (w0 w : World) (b i : Nat) (l : List Int) : Prop where
  bel : Below w0.heap.size w0 w
  map : mapOf w b i l
  new : w0.heap.size ≤ b
set_option maxRecDepth 100000 in
set_option maxHeartbeats 8000000 in
theorem apart_any {w : World} (n : Int) (A : Option Addr) (c : Nat) (l : List Int) (hC : Kd.C (Kd.int .i64) w A l.length l) (hc : l.length ≤ c) (hl : l.length ≤ 100000) (hn : n ≤ 100000) :
    Calls Tryz.prog 20 #[.slice A l.length c, .int .i64 n] w fun e w' => e = .returned (.bool (apartP n l)) ∧ Below w.heap.size w w' := by
  have HC := Aside0.mk hC
  have HL := Aside0.mk hl
  have HN := Aside0.mk hn
  clear hl hn hC
  have hmm := @run_makeMap Tryz.prog
  obtain ⟨R, hR⟩ : ∃ R, R = apartP n l := ⟨_, rfl⟩
  rw [← hR]
  have HR := Aside0.mk hR
  clear hR
  have HAP := Aside0.mk (show AP w (w.alloc (.map #[] 0)) w.heap.size 0 [] from ⟨(Below.refl _ _).alloc (Nat.le_refl _) _, World.ownsMap_made w _ _ _, Nat.le_refl _⟩)
  obtain ⟨w1, hw1⟩ : ∃ w1, w1 = w.alloc (.map #[] 0) := ⟨_, rfl⟩
  rw [← hw1] at HAP
  obtain ⟨b, hb⟩ : ∃ b, b = w.heap.size := ⟨_, rfl⟩
  have HB := Aside0.mk hb
  have HW1 := Aside0.mk hw1
  rw [← hb] at HAP
  clear hw1 hb
  go_enter Tryz.func20, Tryz.ntmps20
  go_wp2_with fail
  rw [← HW1.out, ← HB.out]
  clear HW1 HB hmm
  go_loopg [11] l.length (fun gk v11 wr => ∃ i : Nat, Aside0 (i + gk = l.length) ∧ v11 = .int .i64 i ∧ Aside0 (apartP n (l.take i) = true) ∧ Aside0 (AP w wr b i (l.take i).reverse))
  case atStart => exact ⟨0, ⟨by omega⟩, rfl, ⟨apart_nil n⟩, HAP⟩
  case round =>
    obtain ⟨i, HI, rfl, HA, HAP2⟩ := hrel
    clear HAP
    by_cases hi : i < l.length
    · have hii : (i : Int) < (l.length : Int) := by omega
      obtain ⟨am, ham, hcm⟩ := Kd.at_int (Kd.C_below HC.out HAP2.out.bel) (i : Int) (by omega) (by omega)
      subst ham
      rw [Int.toNat_natCast] at hcm
      obtain ⟨x, hx⟩ : ∃ x, x = rd l i := ⟨_, rfl⟩
      have HX := Aside0.mk (show l.take (i + 1) = l.take i ++ [x] by rw [hx]; unfold rd; simp [hi])
      rw [← hx] at hcm
      clear hx
      have HS := Aside0.mk (apart_snoc n (l.take i) x)
      rw [← HX.out, HA.out, Bool.true_and] at HS
      obtain ⟨M, hM⟩ : ∃ M, M = (l.take i).reverse := ⟨_, rfl⟩
      have HMM := Aside0.mk (show ∀ z, z ∈ M ↔ z ∈ l.take i from fun z => by rw [hM]; simp)
      have HM := Aside0.mk hM
      rw [← hM] at HAP2
      clear hM
      have HNO := Aside0.mk (show apartP n (l.take (i + 1)) = false → R = false from fun h => by
        rw [HR.out]
        cases hq : apartP n l with
        | false => rfl
        | true => rw [← List.take_append_drop (i + 1) l] at hq; rw [apart_less _ _ _ hq] at h; cases h)
      by_cases c1 : x < 2
      · have HRF := Aside0.mk (HNO.out (by rw [HS.out]; exact decide_eq_false (by omega)))
        go_wp2_with fail
        go_ret
        exact ⟨by rw [HRF.out]; rfl, HAP2.out.bel⟩
      · have c1b : decide (x < 2) = false := decide_eq_false c1
        by_cases c2 : x ≥ n
        · have HRF := Aside0.mk (HNO.out (by rw [HS.out]; exact decide_eq_false (by omega)))
          go_wp2_with fail
          go_ret
          exact ⟨by rw [HRF.out]; rfl, HAP2.out.bel⟩
        · have hwf : (Lit.int .i64 x).wf = true := wf_i64 (by omega) (by have := HN.out; omega)
          have hat := mark_at HAP2.out.map x hwf
          by_cases c3 : x ∈ M
          · have HRF := Aside0.mk (HNO.out (by rw [HS.out]; exact decide_eq_false (fun h => h.2.2 ((HMM.out x).1 c3))))
            rw [if_pos c3] at hat
            go_wp2_with fail
            go_ret
            exact ⟨by rw [HRF.out]; rfl, HAP2.out.bel⟩
          · rw [if_neg c3] at hat
            have HOK := Aside0.mk (show apartP n (l.take (i + 1)) = true by rw [HS.out]; exact decide_eq_true ⟨by omega, by omega, fun h => c3 ((HMM.out x).2 h)⟩)
            have HXM := Aside0.mk (show (l.take (i + 1)).reverse = x :: M by rw [HX.out, HM.out]; simp)
            go_wp2_with (first | (at_mapUpdate; refine wpList_mapUpdate_own (H := H0) _ rfl _ _ _ 99 rfl 3 3 (int_keyed Tryz.underlying3) Tryz.underlying99 (plainElem Tryz.prog 3) b i (marks M) rfl HAP2.out.map (by have := HL.out; unfold maxLen; omega) _ _ (.int .i64 x) rfl rfl (keyOf_int_mk Tryz.underlying3 hwf) (.lit (.int .i64 1)) [] (plainElem_int Tryz.underlying3 (by decide)) ?_) | fail)
            intro w2 hown hgr
            have HAP3 := Aside0.mk (show AP w w2 b (i + 1) (x :: M) from ⟨below_row HAP2.out.bel hgr HAP2.out.new, hown, HAP2.out.new⟩)
            clear hown hgr HAP2 hat
            go_wp2_with fail
            go_roundg (l.length - (i + 1))
            case measure => have := HI.out; omega
            case rel => exact ⟨i + 1, ⟨by have := HI.out; omega⟩, congrArg (Value.int .i64) (up1 i (by have := HL.out; omega)), HOK, by rw [HXM.out]; exact HAP3⟩
    · have hil : ¬ ((i : Int) < (l.length : Int)) := by omega
      have HRT := Aside0.mk (show R = true by rw [HR.out, ← HA.out, List.take_of_length_le (by omega)])
      go_wp2_with fail
      go_ret
      exact ⟨by rw [HRT.out]; rfl, HAP2.out.bel⟩
end Ch
end Go.Proofs.YtclneeamemofoaaGreat
end
