/- The document's Cut; the law CellCuts. -/
import Derived.Test.YtkfbegmfepehiaaL2
import Derived.Test.YtkfbegmfepehiaaL1
import Derived.Test.YtkfbegmfepehiaaQk4
import Derived.Test.YtkfbegmfepehiaaQk5
import Derived.Test.YtkfbegmfepehiaaL3
import Derived.KernelRfl
namespace Go.Proofs.Ytkfbegmfepehiaa
set_option linter.unusedVariables false
set_option linter.unusedSimpArgs false
open Go.RowKit Go.Proofs.YtkfbegmfepehiaaW.PrintWords Go.Proofs.YtkfbegmfepehiaaW.PrintLast Go.Proofs.YtkfbegmfepehiaaW.PrintMore
namespace Cell
open Go.Num Go.Crc
theorem xneed_plain (n : Nat) (h : n ≤ 100000000) : PCellCuts.chantryref09_Need.f (n : Int) = some (needP n : Int) := need_plain n h
theorem xmay2_plain (o n x : Int) (d : List Int) : PCellCuts.chantryref09_may.f o n x d = some (cellOk o n x d) := xmay_plain o n x d
theorem piece_cut (text : List Int) (i : Nat) (e : Nat) (he : e = min (242 * (i + 1)) text.length) : (text.take e).drop (242 * i) = pieceOf text i := by
  unfold pieceOf
  rw [List.drop_take, he]
  by_cases h : 242 * (i + 1) ≤ text.length
  · rw [Nat.min_eq_left h]; congr 1; omega
  · rw [Nat.min_eq_right (by omega)]
    rw [List.take_of_length_le (by rw [List.length_drop]; omega), List.take_of_length_le (by rw [List.length_drop]; omega)]
theorem all_no (owner : Int) (places text : List Int) (N i : Nat) (hi : i < N) (h : ¬ okAt owner places text i = true) : ¬ (List.range N).all (okAt owner places text) = true := fun e => h (List.all_eq_true.1 e i (List.mem_range.2 hi))
theorem okAt_of {owner : Int} {places text : List Int} {j : Nat} (h : cellOk owner (j : Int) (nextOf places j) (pieceOf text j) = true) (h1 : 1 ≤ places.getD j 0) (h2 : places.getD j 0 ≤ 65535) : okAt owner places text j = true := by
  unfold okAt
  simp only [Bool.and_eq_true, decide_eq_true_eq]
  exact ⟨h, h1, h2⟩
theorem doc_from (owner : Int) (places text : List Int) (N : Nat) (hN : places.length = N) (hT : N = needP text.length) (hpos : 0 < N) (hfew : text.length ≤ 100000) :
    ∀ (d i k : Nat), i + d = N → (∀ j, j < i → okAt owner places text j = true) →
      PCellCuts.chantryref09_Cut.l0 (k + 2 * d + 1) owner places text (cellsAt owner places text i) (i : Int) = some (if (List.range N).all (okAt owner places text) = true then (cellsAt owner places text N, 0) else ([], 1))
  | 0, i, k, h, hok => by
    simp only [PCellCuts.chantryref09_Cut.l0]
    rw [if_neg (by omega), if_pos (List.all_eq_true.2 (fun j hj => hok j (by have := List.mem_range.1 hj; omega)))]
    rw [show i = N by omega]
  | d + 1, i, k, h, hok => by
    have hi : i < N := by omega
    have hT' : N = (text.length + 241) / 242 := hT
    have w1 : wrap64 ((i : Int) + 1) = ((i + 1 : Nat) : Int) := by unfold wrap64; omega
    have w2 : wrap64 (242 * ((i + 1 : Nat) : Int)) = ((242 * (i + 1) : Nat) : Int) := by unfold wrap64; omega
    have w3 : wrap64 (242 * (i : Int)) = ((242 * i : Nat) : Int) := by unfold wrap64; omega
    have e0 : ∀ (e : Nat), e = min (242 * (i + 1)) text.length → PCellCuts.chantryref09_Cut.j2 (k + 2 * d + 2) owner places text (cellsAt owner places text i) (i : Int) (e : Int) = some (if (List.range N).all (okAt owner places text) = true then (cellsAt owner places text N, 0) else ([], 1)) := by
      intro e he
      have he1 : 242 * i ≤ e := by omega
      have he2 : e ≤ text.length := by omega
      have hrd : rd places (i : Int) = places.getD i 0 := rfl
      have hstep : ∀ nx, nx = nextOf places i → ((PCellCuts.chantryref09_may.f owner (i : Int) nx (pieceOf text i)).bind fun t178 => (if t178 = true then (if 0 ≤ (i : Int) then (if (i : Int) < (places.length : Int) then (if (rd places (i : Int)) < 1 then (some (([] : List Ce), 1)) else (if (rd places (i : Int)) > 65535 then (some (([] : List Ce), 1)) else (if (cellsAt owner places text i).length < 2932031007402 then (PCellCuts.chantryref09_Cut.l0 (k + 2 * d + 1) owner places text (cellsAt owner places text i ++ [(⟨owner, (i : Int), nx, pieceOf text i⟩ : Ce)]) ((i + 1 : Nat) : Int)) else (none)))) else (none)) else (none)) else (some (([] : List Ce), 1)))) = some (if (List.range N).all (okAt owner places text) = true then (cellsAt owner places text N, 0) else ([], 1)) := by
        intro nx hnx
        rw [xmay2_plain, Option.bind_some]
        by_cases h1 : cellOk owner (i : Int) nx (pieceOf text i) = true
        · rw [if_pos h1, if_pos (by omega), if_pos (by omega), hrd]
          by_cases h2 : places.getD i 0 < 1
          · rw [if_pos h2, if_neg (all_no owner places text N i hi (fun e => by have := (okAt_iff e).2.1; omega))]
          · rw [if_neg h2]
            by_cases h3 : places.getD i 0 > 65535
            · rw [if_pos h3, if_neg (all_no owner places text N i hi (fun e => by have := (okAt_iff e).2.2; omega))]
            · rw [if_neg h3, if_pos (by rw [cellsAt_len]; omega)]
              have hk : okAt owner places text i = true := okAt_of (by rw [← hnx]; exact h1) (by omega) (by omega)
              rw [show cellsAt owner places text i ++ [(⟨owner, (i : Int), nx, pieceOf text i⟩ : Ce)] = cellsAt owner places text (i + 1) by rw [cellsAt_succ, hnx]; rfl]
              exact doc_from owner places text N hN hT hpos hfew d (i + 1) k (by omega) (fun j hj => if e : j = i then by rw [e]; exact hk else hok j (by omega))
        · rw [if_neg h1, if_neg (all_no owner places text N i hi (fun e => h1 (by rw [hnx]; exact (okAt_iff e).1)))]
      rw [show k + 2 * d + 2 = (k + 2 * d + 1) + 1 by omega]
      simp only [PCellCuts.chantryref09_Cut.j2]
      rw [w1, w3]
      simp only [Int.toNat_natCast]
      by_cases hl : i + 1 < N
      · rw [if_pos (by omega), if_pos (by omega), if_pos (by omega), if_pos (by omega), if_pos (by omega), Option.bind_some, piece_cut text i e he]
        exact hstep (rd places ((i + 1 : Nat) : Int)) (by unfold nextOf; rw [if_pos (by omega)]; rfl)
      · rw [if_neg (by omega), if_pos (by omega), if_pos (by omega), if_pos (by omega), Option.bind_some, piece_cut text i e he]
        exact hstep 0 (by unfold nextOf; rw [if_neg (by omega)])
    rw [show k + 2 * (d + 1) + 1 = (k + 2 * d + 2) + 1 by omega]
    simp only [PCellCuts.chantryref09_Cut.l0]
    rw [if_pos (by omega), w1, w2]
    by_cases hc : ((242 * (i + 1) : Nat) : Int) > (text.length : Int)
    · rw [if_pos hc]; exact e0 text.length (by omega)
    · rw [if_neg hc]; exact e0 (242 * (i + 1)) (by omega)
theorem doc_cut (owner : Int) (places text : List Int) (hfew : text.length ≤ 100000) : ∃ k, PCellCuts.chantryref09_Cut.f k owner places text = some (cutP owner places text) := by
  unfold cutP
  rw [if_neg (by omega)]
  have hf : ∀ k, PCellCuts.chantryref09_Cut.f (k + 1) owner places text = if (places.length : Int) = (needP text.length : Int) then PCellCuts.chantryref09_Cut.j0 (k + 1) owner places text ((places.length : Int) == 0) else PCellCuts.chantryref09_Cut.j0 (k + 1) owner places text true := fun k => by
    unfold PCellCuts.chantryref09_Cut.f
    rw [if_neg (by omega), xneed_plain _ (by omega), Option.bind_some]
  by_cases h1 : places.length = 0 ∨ places.length ≠ needP text.length
  · rw [if_pos h1]
    refine ⟨1, ?_⟩
    rw [hf 0]
    by_cases h2 : (places.length : Int) = (needP text.length : Int)
    · rw [if_pos h2, show ((places.length : Int) == 0) = true by rw [beq_iff_eq]; omega]
      rfl
    · rw [if_neg h2]
      rfl
  · rw [if_neg h1]
    refine ⟨(0 + 2 * places.length + 1) + 1, ?_⟩
    rw [hf, if_pos (by omega), show ((places.length : Int) == 0) = false by rw [beq_eq_false_iff_ne]; omega]
    simp only [PCellCuts.chantryref09_Cut.j0]
    rw [if_neg (by decide)]
    have := doc_from owner places text places.length rfl (by omega) (by omega) hfew places.length 0 0 (by omega) (fun j hj => by omega)
    exact this
theorem same_from (l : List Ce) (hl : l.length ≤ 1000000) : ∀ (d i k : Nat), i + d = l.length → PCellCuts.chantryref09_SameAll.l0 (k + d + 1) l l (i : Int) = some true
  | 0, i, k, h => by
    simp only [PCellCuts.chantryref09_SameAll.l0]
    rw [if_neg (by omega)]
  | d + 1, i, k, h => by
    rw [show k + (d + 1) + 1 = (k + d + 1) + 1 by omega]
    simp only [PCellCuts.chantryref09_SameAll.l0]
    have w1 : wrap64 ((i : Int) + 1) = ((i + 1 : Nat) : Int) := by unfold wrap64; omega
    have hs : ∀ c : Ce, PCellCuts.chantryref09_Same.f c.f0 c.f1 c.f2 c.f3 c.f0 c.f1 c.f2 c.f3 = some true := fun c => by
      unfold PCellCuts.chantryref09_Same.f PCellGets.chantryref09_Same.f
      rw [if_pos rfl, if_pos rfl, if_pos rfl]
      simp
    rw [if_pos (by omega), if_pos (by omega), if_pos (by omega), hs, Option.bind_some, if_pos rfl, w1]
    exact same_from l hl d (i + 1) k (by omega)
theorem sameall_any {w : World} (l : List Ce) (hl : l.length ≤ 1000000) (A A' : Option Addr) (c c' : Nat) (hC : Kd.C PCellCuts.k24 w A l.length l) (hc : l.length ≤ c) (hC' : Kd.C PCellCuts.k24 w A' l.length l) (hc' : l.length ≤ c') :
    Calls Try.prog 19 #[.slice A l.length c, .slice A' l.length c'] w fun e w' => e = .returned (.bool true) ∧ Below w.heap.size w w' :=
  PCellCuts.chantryref09_SameAll.calls (0 + l.length + 1) A c l A' c' l true w hC hc hC' hc' (by
    unfold PCellCuts.chantryref09_SameAll.f
    rw [if_pos rfl]
    exact same_from l hl l.length 0 0 (by omega))
theorem xneed_any {w : World} (n : Nat) (h : n ≤ 100000000) : Calls Try.prog 21 #[.int .i64 (n : Int)] w fun e w' => e = .returned (.int .i64 (needP n : Int)) ∧ Below w.heap.size w w' :=
  (PCellCuts.chantryref09_Need.calls _ _ w (xneed_plain n h)).mono (fun e w' hh => ⟨hh.1, by first | exact hh.2 | exact hh.2.below⟩)
end Cell
end Go.Proofs.Ytkfbegmfepehiaa
namespace Go.Proofs.Ytkfbegmfepehiaa
set_option linter.unusedVariables false
set_option linter.unusedSimpArgs false
open Go.RowKit Go.Proofs.YtkfbegmfepehiaaW.PrintWords Go.Proofs.YtkfbegmfepehiaaW.PrintLast Go.Proofs.YtkfbegmfepehiaaW.PrintMore
namespace Cell
open Go.Num Go.Crc
theorem xcut_any {w : World} (owner : Int) (AP : Option Addr) (cp : Nat) (places : List Int) (A : Option Addr) (c : Nat) (text : List Int) (hP : Kd.C (Kd.int .i64) w AP places.length places) (hT : Kd.C (Kd.int .u8) w A text.length text) (hcp : places.length ≤ cp) (hct : text.length ≤ c) (hfew : text.length ≤ 100000) :
    Calls Try.prog 17 #[.int .i64 owner, .slice AP places.length cp, .slice A text.length c] w fun e w' => ∃ A' c', e = .returned (.tuple #[.slice A' (cutP owner places text).1.length c', .int .i64 (cutP owner places text).2]) ∧ (cutP owner places text).1.length ≤ c' ∧ (∀ x, Below w'.heap.size w' x → Kd.C PCellCuts.k24 x A' (cutP owner places text).1.length (cutP owner places text).1) ∧ Below w.heap.size w w' := by
  obtain ⟨k, hk⟩ := doc_cut owner places text hfew
  refine (PCellCuts.chantryref09_Cut.calls k owner AP cp places (fun k => k < w.heap.size) A c text _ _ w hP hcp (Kd.V_mk hct (Kd.C_F (Kd.heap_int _) hT)) hk).mono ?_
  rintro e w1 ⟨v, rfl, hn, b⟩
  obtain ⟨A', c', rfl, hc', hC'⟩ := Kd.N_reads hn
  refine ⟨A', c', rfl, hc', fun x hx => ?_, b⟩
  exact (Kd.N_reads' (Kd.N_below hn hx)).2.2
theorem cutP_len (owner : Int) (places text : List Int) : (cutP owner places text).1.length ≤ places.length := by
  unfold cutP
  repeat' split
  all_goals first | exact Nat.zero_le _ | (rw [cellsAt_len]; exact Nat.le_refl _)
theorem join_any {w : World} (owner : Int) (places text : List Int) (hfew : text.length ≤ 100000) (A : Option Addr) (c : Nat) (hC : Kd.C PCellCuts.k24 w A (cutP owner places text).1.length (cutP owner places text).1) (hc : (cutP owner places text).1.length ≤ c) :
    Calls Try.prog 18 #[.slice A (cutP owner places text).1.length c] w fun e w' => ∃ A' n' c', e = .returned (.tuple #[.slice A' n' c', .bool (decide ((cutP owner places text).2 = 0))]) ∧ ((cutP owner places text).2 = 0 → n' = text.length ∧ ∀ x, Below w'.heap.size w' x → Kd.C (Kd.int .u8) x A' text.length text) ∧ Below w.heap.size w w' := by
  obtain ⟨k, hk⟩ := join_cut owner places text hfew
  refine (PCellCuts.cell_Join.calls k A c _ _ _ w hC hc hk).mono ?_
  rintro e w1 ⟨v, rfl, hr, b⟩
  obtain ⟨A', c', rfl⟩ := Kd.R_slice hr
  refine ⟨A', _, c', rfl, fun h0 => ?_, b⟩
  rw [if_pos h0] at hr ⊢
  exact ⟨rfl, stable_R hr⟩
set_option maxHeartbeats 16000000 in
set_option maxRecDepth 100000 in
theorem cuts_walk {w : World} (owner : Int) (AP : Option Addr) (cp : Nat) (places : List Int) (A : Option Addr) (c : Nat) (text : List Int) (hP : Kd.C (Kd.int .i64) w AP places.length places) (hcp : places.length ≤ cp) (hT : Kd.C (Kd.int .u8) w A text.length text) (hct : text.length ≤ c) (hb : ∀ x ∈ text, 0 ≤ x ∧ x ≤ 255) :
    Calls Try.prog 5 #[.int .i64 owner, .slice AP places.length cp, .slice A text.length c] w fun e w' => e = .returned (.bool true) ∧ Below w.heap.size w w' := by
  have HP := Aside0.mk hP
  have HT := Aside0.mk hT
  have HBY := Aside0.mk hb
  clear hP hT hb
  obtain ⟨tn, htn⟩ : ∃ tn, tn = text.length := ⟨_, rfl⟩
  obtain ⟨pn, hpn⟩ : ∃ pn, pn = places.length := ⟨_, rfl⟩
  rw [← htn] at hct
  rw [← hpn] at hcp
  rw [← htn, ← hpn]
  have HTN := Aside0.mk htn
  have HPN := Aside0.mk hpn
  clear htn hpn
  by_cases hbig : tn > 2000 ∨ pn > 20
  · have hg : ((2000 : Int) < (tn : Int)) ∨ ¬ ((2000 : Int) < (tn : Int)) ∧ ((20 : Int) < (pn : Int)) := by omega
    clear hbig
    rcases hg with h1 | ⟨h1, h2⟩
    all_goals (
      go_enter Try.func5, Try.ntmps5
      go_wp2_with fail
      refine awake_any.mono ?_
      rintro e w1 ⟨rfl, b⟩
      have HB := Aside0.mk b
      clear b
      go_wp2_with fail
      go_ret
      exact ⟨rfl, HB.out⟩)
  · have h1 : ¬ ((2000 : Int) < (tn : Int)) := by omega
    have h2 : ¬ ((20 : Int) < (pn : Int)) := by omega
    clear hbig
    go_enter Try.func5, Try.ntmps5
    go_wp2_with fail
    have hfew : text.length ≤ 100000 := by have := HTN.out; omega
    obtain ⟨PC, hPC⟩ : ∃ PC, PC = cutP owner places text := ⟨_, rfl⟩
    obtain ⟨cl, hcl⟩ : ∃ z, z = PC.1.length := ⟨_, rfl⟩
    obtain ⟨cr, hcr⟩ : ∃ z, z = PC.2 := ⟨_, rfl⟩
    have k1 := cut_any owner AP cp places A c text HP.out HT.out (by rw [← HPN.out]; exact hcp) (by rw [← HTN.out]; exact hct) hfew (by have := HPN.out; omega) HBY.out
    have k2 := fun {x : World} (hx : Below w.heap.size w x) => xcut_any owner AP cp places A c text (Kd.C_below HP.out hx) (Kd.C_below HT.out hx) (by rw [← HPN.out]; exact hcp) (by rw [← HTN.out]; exact hct) hfew
    have k3 := fun {x : World} (A' : Option Addr) (c' : Nat) => join_any (w := x) owner places text hfew A' c'
    have hsm : PC.1.length ≤ 1000000 := by rw [hPC]; have := cutP_len owner places text; have := HPN.out; omega
    rw [← hPC, ← hcl, ← hcr, ← HTN.out, ← HPN.out] at k1
    simp only [← hPC, ← hcl, ← hcr, ← HTN.out, ← HPN.out] at k2 k3
    have K2 := Aside0.mk @k2
    have K3 := Aside0.mk @k3
    have HCL := Aside0.mk hcl
    clear k2 k3 hPC hcl hcr hfew
    refine k1.mono ?_
    clear k1
    rintro e w1 ⟨A1, c1, rfl, hc1, hC1, b1⟩
    have HC1 := Aside0.mk hC1
    have HB1 := Aside0.mk b1
    clear hC1 b1
    go_wp2_with fail
    refine (K2.out HB1.out).mono ?_
    clear K2
    rintro e w2 ⟨A2, c2, rfl, hc2, hC2, b2⟩
    have HB2 := Aside0.mk (HB1.out.trans (b2.mono HB1.out.size))
    have HD2 := Aside0.mk (show ∀ x, Below w2.heap.size w2 x → Kd.C PCellCuts.k24 x A1 cl PC.1 from fun x hx => HC1.out x (b2.trans (hx.mono b2.size)))
    have HC2 := Aside0.mk hC2
    clear b2 hC2 HC1 HB1
    go_wp2_with fail
    refine (K3.out A1 c1 (HD2.out _ (Below.refl _ _)) hc1).mono ?_
    clear K3
    rintro e w3 ⟨A3, n3, c3, rfl, hj, b3⟩
    have HB3 := Aside0.mk (HB2.out.trans (b3.mono HB2.out.size))
    have hs3 := sameall_any PC.1 hsm A1 A2 c1 c2 (w := w3) (by rw [← HCL.out]; exact HD2.out _ b3) (by rw [← HCL.out]; exact hc1) (by rw [← HCL.out]; exact HC2.out _ b3) (by rw [← HCL.out]; exact hc2)
    rw [← HCL.out] at hs3
    have HS3 := Aside0.mk hs3
    have HJ := Aside0.mk hj
    clear b3 hj hs3 HD2 HC2 hsm
    go_wp2_with fail
    refine HS3.out.mono ?_
    clear HS3
    rintro e w4 ⟨rfl, b4⟩
    have HB4 := Aside0.mk (HB3.out.trans (b4.mono HB3.out.size))
    have H34 := Aside0.mk b4
    clear b4
    have hfew : tn ≤ 100000000 := by omega
    by_cases h0 : cr = 0
    · subst h0
      obtain ⟨hn3, hC3⟩ := HJ.out rfl
      have hn3 : n3 = tn := hn3
      subst hn3
      obtain ⟨U, hU⟩ : ∃ U, U = strOfNums text := ⟨_, rfl⟩
      have hcv1 : (convert 22 9 (.slice A3 n3 c3)).run Try.prog w4 = .ok (.string U) w4 := by rw [hU]; exact strC (hC3 _ H34.out)
      have hcv2 : (convert 22 9 (.slice A n3 c)).run Try.prog w4 = .ok (.string U) w4 := by
        rw [hU]
        have := Kd.C_below HT.out HB4.out
        rw [← HTN.out] at this
        exact strC this
      clear hC3 hU
      go_wp2_with fail
      refine (need_any n3 hfew).mono ?_
      rintro e w5 ⟨rfl, b5⟩
      have HB5 := Aside0.mk (HB4.out.trans (b5.mono HB4.out.size))
      clear b5
      go_wp2_with fail
      refine (xneed_any n3 hfew).mono ?_
      rintro e w6 ⟨rfl, b6⟩
      have HB6 := Aside0.mk (HB5.out.trans (b6.mono HB5.out.size))
      clear b6
      go_wp2_with fail
      refine awake_any.mono ?_
      rintro e w7 ⟨rfl, b7⟩
      have HB7 := Aside0.mk (HB6.out.trans (b7.mono HB6.out.size))
      clear b7
      go_wp2_with fail
      go_ret
      exact ⟨rfl, HB7.out⟩
    · have h0b : (cr == 0) = false := by simpa using h0
      have h0d : decide (cr = 0) = false := by simpa using h0
      go_wp2_with fail
      refine (need_any tn hfew).mono ?_
      rintro e w5 ⟨rfl, b5⟩
      have HB5 := Aside0.mk (HB4.out.trans (b5.mono HB4.out.size))
      clear b5
      go_wp2_with fail
      refine (xneed_any tn hfew).mono ?_
      rintro e w6 ⟨rfl, b6⟩
      have HB6 := Aside0.mk (HB5.out.trans (b6.mono HB5.out.size))
      clear b6
      go_wp2_with fail
      refine awake_any.mono ?_
      rintro e w7 ⟨rfl, b7⟩
      have HB7 := Aside0.mk (HB6.out.trans (b7.mono HB6.out.size))
      clear b7
      go_wp2_with fail
      go_ret
      exact ⟨rfl, HB7.out⟩
end Cell
end Go.Proofs.Ytkfbegmfepehiaa
